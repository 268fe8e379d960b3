
/- law20: CheckNamed. (Printed by wip/genck.py.) -/
import Derived.Test.YtenlffhoinialaaLawCk2
import Derived.Deep.RegionWith
namespace Go.Proofs.Ytenlffhoinialaa
open Go.RowKit
set_option maxHeartbeats 1000000
attribute [local go_sem ↓] Go.wp_at_zero Go.wp_at_succ
set_option maxRecDepth 100000 in
theorem ev_na0 : rawF (wS [(⟨#[100]⟩, 2), (⟨#[97, 47, 98]⟩, 3), (⟨#[103]⟩, 3)] hS ⟨#[]⟩ ⟨#[116, 104, 114, 101, 101]⟩ 10 11 [(1, 2, 11)] [3, 2]) = [⟨5, 1, ⟨#[97, 47, 98]⟩⟩] := by rw [raw_c]; kernel_rfl
set_option maxRecDepth 100000 in
theorem ev_na1 : rawF (wS [(⟨#[100]⟩, 2), (⟨#[]⟩, 3), (⟨#[103]⟩, 3)] hS ⟨#[]⟩ ⟨#[116, 104, 114, 101, 101]⟩ 10 11 [(1, 2, 11)] [3, 2]) = [⟨5, 1, ⟨#[]⟩⟩] := by rw [raw_c]; kernel_rfl
set_option maxRecDepth 100000 in
theorem ev_na2 : rawF (wS [(⟨#[100]⟩, 2), (⟨#[100]⟩, 3), (⟨#[103]⟩, 3)] hS ⟨#[]⟩ ⟨#[116, 104, 114, 101, 101]⟩ 10 11 [(1, 2, 11)] [3, 2]) = [⟨5, 1, ⟨#[100]⟩⟩] := by rw [raw_c]; kernel_rfl
set_option maxRecDepth 100000 in
theorem ev_na3 : rawF (wS [(⟨#[100]⟩, 2), (⟨#[98]⟩, 3), (⟨#[103]⟩, 3)] hS ⟨#[]⟩ ⟨#[116, 104, 114, 101, 101]⟩ 10 11 [(1, 2, 11)] [3, 2]) = [⟨5, 1, ⟨#[98]⟩⟩] := by rw [raw_c]; kernel_rfl
theorem bel_drewN {n : Nat} {w w' : World} (h : Below n w w') (d : Nat) : Below n w (w'.drewN d) := ⟨h.os, h.tape, h.output, h.size, h.block⟩
set_option maxHeartbeats 8000000 in
set_option maxRecDepth 1000000 in
theorem cnamed_walk (w : World) (v : Int) (_ : (Lit.int .i64 v).wf = true) :
    Calls Try.prog 9 #[.int .i64 v] w fun e w' => e = .returned (.bool true) ∧ Below w.heap.size w w' := by
  go_enter Try.func9, Try.ntmps9
  go_wp2_with (fail)
  refine (awake_calls w).mono ?_
  rintro e w1 ⟨rfl, hB1⟩
  go_wp2_with (fail)
  refine (whole_calls w1).mono ?_
  rintro e w2 ⟨g, go, gm, e1, e2, rfl, hW⟩
  have H0 := Lib.hid (WF.start hW hB1 #[.slice (some ⟨g, 0, none⟩) 5 5, .slice (some ⟨go, 0, none⟩) 1 1, .slice (some ⟨gm, 0, none⟩) 2 2])
  clear hB1 hW
  go_upto_region 4 with (fail)
  generalize w2.alloc (Obj.cells #[.slice (some ⟨g, 0, none⟩) 5 5, .slice (some ⟨go, 0, none⟩) 1 1, .slice (some ⟨gm, 0, none⟩) 2 2] 26) = w0 at *
  generalize w2.heap.size = sb at *
  rcases bit3 v with hv | hv | hv | hv
  ·
    have H1 := Lib.hid (H0.out.alloc (Obj.cells #[.string ⟨#[97, 47, 98]⟩, .string ⟨#[]⟩, .string ⟨#[100]⟩, .string ⟨#[98]⟩] 9))
    go_upto_region 5 with (fail)
    clear H0
    generalize w0.alloc (Obj.cells #[.string ⟨#[97, 47, 98]⟩, .string ⟨#[]⟩, .string ⟨#[100]⟩, .string ⟨#[98]⟩] 9) = wa1 at *
    have s0 : wa1.cell? ⟨sb, 0, none⟩ = some (.slice (some ⟨g, 0, none⟩) 5 5) := H1.out.st.cell 0
    have i2 : wa1.cell? ⟨g, 2, none⟩ = some (.slice (some ⟨e1, 0, none⟩) 3 3) := H1.out.ino.cell 2
    have tt : wa1.cell? ⟨e1, 2, none⟩ = some (.string ⟨#[102]⟩) := H1.out.ent1.cell 2
    have ft : wa1.frozen? ⟨e1, 2, none⟩ = false := H1.out.ent1.frozen 2
    have H2 := Lib.hid (H1.out.setE1 2 (.string ⟨#[97, 47, 98]⟩))
    go_upto_region 6 with (fail)
    clear s0 i2 tt ft H1
    generalize wa1.setCell ⟨e1, 2, none⟩ (.string ⟨#[97, 47, 98]⟩) = wa2 at *
    have H2a := Lib.hid (H2.out.alloc (Obj.cells #[.string ⟨#[97, 47, 98]⟩, .string ⟨#[]⟩, .string ⟨#[100]⟩, .string ⟨#[98]⟩] 9))
    have H2b := Lib.hid (H2a.out.alloc (Obj.cells #[.int .i64 5, .int .i64 1, .string ⟨#[97, 47, 98]⟩] 64))
    have s0 : wa2.cell? ⟨sb, 0, none⟩ = some (.slice (some ⟨g, 0, none⟩) 5 5) := H2.out.st.cell 0
    have s1 : wa2.cell? ⟨sb, 1, none⟩ = some (.slice (some ⟨go, 0, none⟩) 1 1) := H2.out.st.cell 1
    have s2 : wa2.cell? ⟨sb, 2, none⟩ = some (.slice (some ⟨gm, 0, none⟩) 2 2) := H2.out.st.cell 2
    have s0a : (wa2.alloc (Obj.cells #[.string ⟨#[97, 47, 98]⟩, .string ⟨#[]⟩, .string ⟨#[100]⟩, .string ⟨#[98]⟩] 9)).cell? ⟨sb, 0, none⟩ = some (.slice (some ⟨g, 0, none⟩) 5 5) := H2a.out.st.cell 0
    have s1a : (wa2.alloc (Obj.cells #[.string ⟨#[97, 47, 98]⟩, .string ⟨#[]⟩, .string ⟨#[100]⟩, .string ⟨#[98]⟩] 9)).cell? ⟨sb, 1, none⟩ = some (.slice (some ⟨go, 0, none⟩) 1 1) := H2a.out.st.cell 1
    have s2a : (wa2.alloc (Obj.cells #[.string ⟨#[97, 47, 98]⟩, .string ⟨#[]⟩, .string ⟨#[100]⟩, .string ⟨#[98]⟩] 9)).cell? ⟨sb, 2, none⟩ = some (.slice (some ⟨gm, 0, none⟩) 2 2) := H2a.out.st.cell 2
    have s0b : ((wa2.alloc (Obj.cells #[.string ⟨#[97, 47, 98]⟩, .string ⟨#[]⟩, .string ⟨#[100]⟩, .string ⟨#[98]⟩] 9)).alloc (Obj.cells #[.int .i64 5, .int .i64 1, .string ⟨#[97, 47, 98]⟩] 64)).cell? ⟨sb, 0, none⟩ = some (.slice (some ⟨g, 0, none⟩) 5 5) := H2b.out.st.cell 0
    have s1b : ((wa2.alloc (Obj.cells #[.string ⟨#[97, 47, 98]⟩, .string ⟨#[]⟩, .string ⟨#[100]⟩, .string ⟨#[98]⟩] 9)).alloc (Obj.cells #[.int .i64 5, .int .i64 1, .string ⟨#[97, 47, 98]⟩] 64)).cell? ⟨sb, 1, none⟩ = some (.slice (some ⟨go, 0, none⟩) 1 1) := H2b.out.st.cell 1
    have s2b : ((wa2.alloc (Obj.cells #[.string ⟨#[97, 47, 98]⟩, .string ⟨#[]⟩, .string ⟨#[100]⟩, .string ⟨#[98]⟩] 9)).alloc (Obj.cells #[.int .i64 5, .int .i64 1, .string ⟨#[97, 47, 98]⟩] 64)).cell? ⟨sb, 2, none⟩ = some (.slice (some ⟨gm, 0, none⟩) 2 2) := H2b.out.st.cell 2
    have HFS := Lib.hid (show ∀ W, WF w W sb g go gm e1 e2 (svW g go gm) (wholeI e1 e2) (wholeE1.setIfInBounds 2 (.string ⟨#[97, 47, 98]⟩)) wholeE2 #[.int .i64 1, .int .i64 2, .int .i64 11] #[.int .i64 3, .int .i64 2] → Calls Try.prog 15 #[.agg #[.slice (some ⟨g, 0, none⟩) 5 5, .slice (some ⟨go, 0, none⟩) 1 1, .slice (some ⟨gm, 0, none⟩) 2 2]] W fun e w' => ∃ r, e = .returned r ∧ Below W.heap.size W w' ∧ RowAt w' r [(⟨5, 1, ⟨#[97, 47, 98]⟩⟩ : Fnd)].length 3 (fndC [⟨5, 1, ⟨#[97, 47, 98]⟩⟩]) from fun W H => found_out (whole_stm (a := [(⟨#[100]⟩, 2), (⟨#[97, 47, 98]⟩, 3), (⟨#[103]⟩, 3)]) (b := hS) (d2 := ⟨#[]⟩) (d3 := ⟨#[116, 104, 114, 101, 101]⟩) (n4 := 10) (n5 := 11) (O := [(1, 2, 11)]) (M := [3, 2]) H.ino (blk32 H.ent1 (Nat.le_refl _) rfl rfl rfl rfl rfl rfl) (blk12 H.ent2 (Nat.le_refl _) rfl rfl) (blk13 H.opn (Nat.le_refl _) rfl rfl rfl) (blk21 H.mad (Nat.le_refl _) rfl rfl)) (small_of (by kernel_rfl)) (rise_one _) ev_na0)
    have HZ := Lib.hid (show (wa2.alloc (Obj.cells #[.string ⟨#[97, 47, 98]⟩, .string ⟨#[]⟩, .string ⟨#[100]⟩, .string ⟨#[98]⟩] 9)).heap[wa2.heap.size]? = some (Obj.cells #[.string ⟨#[97, 47, 98]⟩, .string ⟨#[]⟩, .string ⟨#[100]⟩, .string ⟨#[98]⟩] 9) from heap_alloc_new _ _)
    have HZ2 := Lib.hid (show ((wa2.alloc (Obj.cells #[.string ⟨#[97, 47, 98]⟩, .string ⟨#[]⟩, .string ⟨#[100]⟩, .string ⟨#[98]⟩] 9)).alloc (Obj.cells #[.int .i64 5, .int .i64 1, .string ⟨#[97, 47, 98]⟩] 64)).heap[wa2.heap.size + 1]? = some (Obj.cells #[.int .i64 5, .int .i64 1, .string ⟨#[97, 47, 98]⟩] 64) from Blk.newAt _ _ _ (by simp))
    go_region_with (first
      | (go_at_call 15; refine (HFS.out _ (by first | exact H2.out.drew | exact H2a.out.drew | exact H2b.out.drew)).mono ?_; rintro e w5 ⟨r, rfl, hB5, hR5⟩; obtain ⟨RA, rcap, rfl⟩ := hR5.form; have HR5 := Lib.hid hR5; have HB5 := Lib.hid (show Below w.heap.size w w5 from by first | exact H2.out.drew.bel.trans (hB5.mono H2.out.drew.bel.size) | exact H2a.out.drew.bel.trans (hB5.mono H2a.out.drew.bel.size) | exact H2b.out.drew.bel.trans (hB5.mono H2b.out.drew.bel.size)); (try have hq5 : w5.cell? ⟨wa2.heap.size, 0, none⟩ = some (.string ⟨#[97, 47, 98]⟩) := (Blk.of_heap (hB5.block wa2.heap.size (by simp; try omega)) (t := 9) (by first | exact HZ.out | exact heap_alloc_lt _ _ (by simp) ▸ HZ.out)).cell 0); (try have hf5 : Blk w5 (wa2.heap.size + 1) 64 #[.int .i64 5, .int .i64 1, .string ⟨#[97, 47, 98]⟩] := Blk.of_heap (hB5.block (wa2.heap.size + 1) (by simp; try omega)) HZ2.out); clear hR5 hB5)
      | (go_at_call 17; refine (same_fnd (D := [⟨5, 1, ⟨#[97, 47, 98]⟩⟩]) (by first | exact HR5.out | exact HR5.out.keep ((Below.refl _ w5).alloc (Nat.le_refl _) _) | exact HR5.out.keep (((Below.refl _ w5).alloc (Nat.le_refl _) _).alloc (by simp) _)) (lit1 (f := ⟨5, 1, ⟨#[97, 47, 98]⟩⟩) (by first | exact hf5 | exact Blk.new _ _ _ | exact Blk.newAt _ _ _ (by simp))) (by simp)).mono ?_; rintro e w8 ⟨rfl, dd, rfl⟩))
    all_goals (go_wp2_with (fail); go_ret; first | exact ⟨rfl, bel_drewN HB5.out dd⟩ | exact ⟨rfl, bel_drewN (HB5.out.alloc HB5.out.size _) dd⟩ | exact ⟨rfl, bel_drewN ((HB5.out.alloc HB5.out.size _).alloc (by simp; have := HB5.out.size; omega) _) dd⟩)
  ·
    have H1 := Lib.hid (H0.out.alloc (Obj.cells #[.string ⟨#[97, 47, 98]⟩, .string ⟨#[]⟩, .string ⟨#[100]⟩, .string ⟨#[98]⟩] 9))
    go_upto_region 5 with (fail)
    clear H0
    generalize w0.alloc (Obj.cells #[.string ⟨#[97, 47, 98]⟩, .string ⟨#[]⟩, .string ⟨#[100]⟩, .string ⟨#[98]⟩] 9) = wa1 at *
    have s0 : wa1.cell? ⟨sb, 0, none⟩ = some (.slice (some ⟨g, 0, none⟩) 5 5) := H1.out.st.cell 0
    have i2 : wa1.cell? ⟨g, 2, none⟩ = some (.slice (some ⟨e1, 0, none⟩) 3 3) := H1.out.ino.cell 2
    have tt : wa1.cell? ⟨e1, 2, none⟩ = some (.string ⟨#[102]⟩) := H1.out.ent1.cell 2
    have ft : wa1.frozen? ⟨e1, 2, none⟩ = false := H1.out.ent1.frozen 2
    have H2 := Lib.hid (H1.out.setE1 2 (.string ⟨#[]⟩))
    go_upto_region 6 with (fail)
    clear s0 i2 tt ft H1
    generalize wa1.setCell ⟨e1, 2, none⟩ (.string ⟨#[]⟩) = wa2 at *
    have H2a := Lib.hid (H2.out.alloc (Obj.cells #[.string ⟨#[97, 47, 98]⟩, .string ⟨#[]⟩, .string ⟨#[100]⟩, .string ⟨#[98]⟩] 9))
    have H2b := Lib.hid (H2a.out.alloc (Obj.cells #[.int .i64 5, .int .i64 1, .string ⟨#[]⟩] 64))
    have s0 : wa2.cell? ⟨sb, 0, none⟩ = some (.slice (some ⟨g, 0, none⟩) 5 5) := H2.out.st.cell 0
    have s1 : wa2.cell? ⟨sb, 1, none⟩ = some (.slice (some ⟨go, 0, none⟩) 1 1) := H2.out.st.cell 1
    have s2 : wa2.cell? ⟨sb, 2, none⟩ = some (.slice (some ⟨gm, 0, none⟩) 2 2) := H2.out.st.cell 2
    have s0a : (wa2.alloc (Obj.cells #[.string ⟨#[97, 47, 98]⟩, .string ⟨#[]⟩, .string ⟨#[100]⟩, .string ⟨#[98]⟩] 9)).cell? ⟨sb, 0, none⟩ = some (.slice (some ⟨g, 0, none⟩) 5 5) := H2a.out.st.cell 0
    have s1a : (wa2.alloc (Obj.cells #[.string ⟨#[97, 47, 98]⟩, .string ⟨#[]⟩, .string ⟨#[100]⟩, .string ⟨#[98]⟩] 9)).cell? ⟨sb, 1, none⟩ = some (.slice (some ⟨go, 0, none⟩) 1 1) := H2a.out.st.cell 1
    have s2a : (wa2.alloc (Obj.cells #[.string ⟨#[97, 47, 98]⟩, .string ⟨#[]⟩, .string ⟨#[100]⟩, .string ⟨#[98]⟩] 9)).cell? ⟨sb, 2, none⟩ = some (.slice (some ⟨gm, 0, none⟩) 2 2) := H2a.out.st.cell 2
    have s0b : ((wa2.alloc (Obj.cells #[.string ⟨#[97, 47, 98]⟩, .string ⟨#[]⟩, .string ⟨#[100]⟩, .string ⟨#[98]⟩] 9)).alloc (Obj.cells #[.int .i64 5, .int .i64 1, .string ⟨#[]⟩] 64)).cell? ⟨sb, 0, none⟩ = some (.slice (some ⟨g, 0, none⟩) 5 5) := H2b.out.st.cell 0
    have s1b : ((wa2.alloc (Obj.cells #[.string ⟨#[97, 47, 98]⟩, .string ⟨#[]⟩, .string ⟨#[100]⟩, .string ⟨#[98]⟩] 9)).alloc (Obj.cells #[.int .i64 5, .int .i64 1, .string ⟨#[]⟩] 64)).cell? ⟨sb, 1, none⟩ = some (.slice (some ⟨go, 0, none⟩) 1 1) := H2b.out.st.cell 1
    have s2b : ((wa2.alloc (Obj.cells #[.string ⟨#[97, 47, 98]⟩, .string ⟨#[]⟩, .string ⟨#[100]⟩, .string ⟨#[98]⟩] 9)).alloc (Obj.cells #[.int .i64 5, .int .i64 1, .string ⟨#[]⟩] 64)).cell? ⟨sb, 2, none⟩ = some (.slice (some ⟨gm, 0, none⟩) 2 2) := H2b.out.st.cell 2
    have HFS := Lib.hid (show ∀ W, WF w W sb g go gm e1 e2 (svW g go gm) (wholeI e1 e2) (wholeE1.setIfInBounds 2 (.string ⟨#[]⟩)) wholeE2 #[.int .i64 1, .int .i64 2, .int .i64 11] #[.int .i64 3, .int .i64 2] → Calls Try.prog 15 #[.agg #[.slice (some ⟨g, 0, none⟩) 5 5, .slice (some ⟨go, 0, none⟩) 1 1, .slice (some ⟨gm, 0, none⟩) 2 2]] W fun e w' => ∃ r, e = .returned r ∧ Below W.heap.size W w' ∧ RowAt w' r [(⟨5, 1, ⟨#[]⟩⟩ : Fnd)].length 3 (fndC [⟨5, 1, ⟨#[]⟩⟩]) from fun W H => found_out (whole_stm (a := [(⟨#[100]⟩, 2), (⟨#[]⟩, 3), (⟨#[103]⟩, 3)]) (b := hS) (d2 := ⟨#[]⟩) (d3 := ⟨#[116, 104, 114, 101, 101]⟩) (n4 := 10) (n5 := 11) (O := [(1, 2, 11)]) (M := [3, 2]) H.ino (blk32 H.ent1 (Nat.le_refl _) rfl rfl rfl rfl rfl rfl) (blk12 H.ent2 (Nat.le_refl _) rfl rfl) (blk13 H.opn (Nat.le_refl _) rfl rfl rfl) (blk21 H.mad (Nat.le_refl _) rfl rfl)) (small_of (by kernel_rfl)) (rise_one _) ev_na1)
    have HZ := Lib.hid (show (wa2.alloc (Obj.cells #[.string ⟨#[97, 47, 98]⟩, .string ⟨#[]⟩, .string ⟨#[100]⟩, .string ⟨#[98]⟩] 9)).heap[wa2.heap.size]? = some (Obj.cells #[.string ⟨#[97, 47, 98]⟩, .string ⟨#[]⟩, .string ⟨#[100]⟩, .string ⟨#[98]⟩] 9) from heap_alloc_new _ _)
    have HZ2 := Lib.hid (show ((wa2.alloc (Obj.cells #[.string ⟨#[97, 47, 98]⟩, .string ⟨#[]⟩, .string ⟨#[100]⟩, .string ⟨#[98]⟩] 9)).alloc (Obj.cells #[.int .i64 5, .int .i64 1, .string ⟨#[]⟩] 64)).heap[wa2.heap.size + 1]? = some (Obj.cells #[.int .i64 5, .int .i64 1, .string ⟨#[]⟩] 64) from Blk.newAt _ _ _ (by simp))
    go_region_with (first
      | (go_at_call 15; refine (HFS.out _ (by first | exact H2.out.drew | exact H2a.out.drew | exact H2b.out.drew)).mono ?_; rintro e w5 ⟨r, rfl, hB5, hR5⟩; obtain ⟨RA, rcap, rfl⟩ := hR5.form; have HR5 := Lib.hid hR5; have HB5 := Lib.hid (show Below w.heap.size w w5 from by first | exact H2.out.drew.bel.trans (hB5.mono H2.out.drew.bel.size) | exact H2a.out.drew.bel.trans (hB5.mono H2a.out.drew.bel.size) | exact H2b.out.drew.bel.trans (hB5.mono H2b.out.drew.bel.size)); (try have hq5 : w5.cell? ⟨wa2.heap.size, 1, none⟩ = some (.string ⟨#[]⟩) := (Blk.of_heap (hB5.block wa2.heap.size (by simp; try omega)) (t := 9) (by first | exact HZ.out | exact heap_alloc_lt _ _ (by simp) ▸ HZ.out)).cell 1); (try have hf5 : Blk w5 (wa2.heap.size + 1) 64 #[.int .i64 5, .int .i64 1, .string ⟨#[]⟩] := Blk.of_heap (hB5.block (wa2.heap.size + 1) (by simp; try omega)) HZ2.out); clear hR5 hB5)
      | (go_at_call 17; refine (same_fnd (D := [⟨5, 1, ⟨#[]⟩⟩]) (by first | exact HR5.out | exact HR5.out.keep ((Below.refl _ w5).alloc (Nat.le_refl _) _) | exact HR5.out.keep (((Below.refl _ w5).alloc (Nat.le_refl _) _).alloc (by simp) _)) (lit1 (f := ⟨5, 1, ⟨#[]⟩⟩) (by first | exact hf5 | exact Blk.new _ _ _ | exact Blk.newAt _ _ _ (by simp))) (by simp)).mono ?_; rintro e w8 ⟨rfl, dd, rfl⟩))
    all_goals (go_wp2_with (fail); go_ret; first | exact ⟨rfl, bel_drewN HB5.out dd⟩ | exact ⟨rfl, bel_drewN (HB5.out.alloc HB5.out.size _) dd⟩ | exact ⟨rfl, bel_drewN ((HB5.out.alloc HB5.out.size _).alloc (by simp; have := HB5.out.size; omega) _) dd⟩)
  ·
    have H1 := Lib.hid (H0.out.alloc (Obj.cells #[.string ⟨#[97, 47, 98]⟩, .string ⟨#[]⟩, .string ⟨#[100]⟩, .string ⟨#[98]⟩] 9))
    go_upto_region 5 with (fail)
    clear H0
    generalize w0.alloc (Obj.cells #[.string ⟨#[97, 47, 98]⟩, .string ⟨#[]⟩, .string ⟨#[100]⟩, .string ⟨#[98]⟩] 9) = wa1 at *
    have s0 : wa1.cell? ⟨sb, 0, none⟩ = some (.slice (some ⟨g, 0, none⟩) 5 5) := H1.out.st.cell 0
    have i2 : wa1.cell? ⟨g, 2, none⟩ = some (.slice (some ⟨e1, 0, none⟩) 3 3) := H1.out.ino.cell 2
    have tt : wa1.cell? ⟨e1, 2, none⟩ = some (.string ⟨#[102]⟩) := H1.out.ent1.cell 2
    have ft : wa1.frozen? ⟨e1, 2, none⟩ = false := H1.out.ent1.frozen 2
    have H2 := Lib.hid (H1.out.setE1 2 (.string ⟨#[100]⟩))
    go_upto_region 6 with (fail)
    clear s0 i2 tt ft H1
    generalize wa1.setCell ⟨e1, 2, none⟩ (.string ⟨#[100]⟩) = wa2 at *
    have H2a := Lib.hid (H2.out.alloc (Obj.cells #[.string ⟨#[97, 47, 98]⟩, .string ⟨#[]⟩, .string ⟨#[100]⟩, .string ⟨#[98]⟩] 9))
    have H2b := Lib.hid (H2a.out.alloc (Obj.cells #[.int .i64 5, .int .i64 1, .string ⟨#[100]⟩] 64))
    have s0 : wa2.cell? ⟨sb, 0, none⟩ = some (.slice (some ⟨g, 0, none⟩) 5 5) := H2.out.st.cell 0
    have s1 : wa2.cell? ⟨sb, 1, none⟩ = some (.slice (some ⟨go, 0, none⟩) 1 1) := H2.out.st.cell 1
    have s2 : wa2.cell? ⟨sb, 2, none⟩ = some (.slice (some ⟨gm, 0, none⟩) 2 2) := H2.out.st.cell 2
    have s0a : (wa2.alloc (Obj.cells #[.string ⟨#[97, 47, 98]⟩, .string ⟨#[]⟩, .string ⟨#[100]⟩, .string ⟨#[98]⟩] 9)).cell? ⟨sb, 0, none⟩ = some (.slice (some ⟨g, 0, none⟩) 5 5) := H2a.out.st.cell 0
    have s1a : (wa2.alloc (Obj.cells #[.string ⟨#[97, 47, 98]⟩, .string ⟨#[]⟩, .string ⟨#[100]⟩, .string ⟨#[98]⟩] 9)).cell? ⟨sb, 1, none⟩ = some (.slice (some ⟨go, 0, none⟩) 1 1) := H2a.out.st.cell 1
    have s2a : (wa2.alloc (Obj.cells #[.string ⟨#[97, 47, 98]⟩, .string ⟨#[]⟩, .string ⟨#[100]⟩, .string ⟨#[98]⟩] 9)).cell? ⟨sb, 2, none⟩ = some (.slice (some ⟨gm, 0, none⟩) 2 2) := H2a.out.st.cell 2
    have s0b : ((wa2.alloc (Obj.cells #[.string ⟨#[97, 47, 98]⟩, .string ⟨#[]⟩, .string ⟨#[100]⟩, .string ⟨#[98]⟩] 9)).alloc (Obj.cells #[.int .i64 5, .int .i64 1, .string ⟨#[100]⟩] 64)).cell? ⟨sb, 0, none⟩ = some (.slice (some ⟨g, 0, none⟩) 5 5) := H2b.out.st.cell 0
    have s1b : ((wa2.alloc (Obj.cells #[.string ⟨#[97, 47, 98]⟩, .string ⟨#[]⟩, .string ⟨#[100]⟩, .string ⟨#[98]⟩] 9)).alloc (Obj.cells #[.int .i64 5, .int .i64 1, .string ⟨#[100]⟩] 64)).cell? ⟨sb, 1, none⟩ = some (.slice (some ⟨go, 0, none⟩) 1 1) := H2b.out.st.cell 1
    have s2b : ((wa2.alloc (Obj.cells #[.string ⟨#[97, 47, 98]⟩, .string ⟨#[]⟩, .string ⟨#[100]⟩, .string ⟨#[98]⟩] 9)).alloc (Obj.cells #[.int .i64 5, .int .i64 1, .string ⟨#[100]⟩] 64)).cell? ⟨sb, 2, none⟩ = some (.slice (some ⟨gm, 0, none⟩) 2 2) := H2b.out.st.cell 2
    have HFS := Lib.hid (show ∀ W, WF w W sb g go gm e1 e2 (svW g go gm) (wholeI e1 e2) (wholeE1.setIfInBounds 2 (.string ⟨#[100]⟩)) wholeE2 #[.int .i64 1, .int .i64 2, .int .i64 11] #[.int .i64 3, .int .i64 2] → Calls Try.prog 15 #[.agg #[.slice (some ⟨g, 0, none⟩) 5 5, .slice (some ⟨go, 0, none⟩) 1 1, .slice (some ⟨gm, 0, none⟩) 2 2]] W fun e w' => ∃ r, e = .returned r ∧ Below W.heap.size W w' ∧ RowAt w' r [(⟨5, 1, ⟨#[100]⟩⟩ : Fnd)].length 3 (fndC [⟨5, 1, ⟨#[100]⟩⟩]) from fun W H => found_out (whole_stm (a := [(⟨#[100]⟩, 2), (⟨#[100]⟩, 3), (⟨#[103]⟩, 3)]) (b := hS) (d2 := ⟨#[]⟩) (d3 := ⟨#[116, 104, 114, 101, 101]⟩) (n4 := 10) (n5 := 11) (O := [(1, 2, 11)]) (M := [3, 2]) H.ino (blk32 H.ent1 (Nat.le_refl _) rfl rfl rfl rfl rfl rfl) (blk12 H.ent2 (Nat.le_refl _) rfl rfl) (blk13 H.opn (Nat.le_refl _) rfl rfl rfl) (blk21 H.mad (Nat.le_refl _) rfl rfl)) (small_of (by kernel_rfl)) (rise_one _) ev_na2)
    have HZ := Lib.hid (show (wa2.alloc (Obj.cells #[.string ⟨#[97, 47, 98]⟩, .string ⟨#[]⟩, .string ⟨#[100]⟩, .string ⟨#[98]⟩] 9)).heap[wa2.heap.size]? = some (Obj.cells #[.string ⟨#[97, 47, 98]⟩, .string ⟨#[]⟩, .string ⟨#[100]⟩, .string ⟨#[98]⟩] 9) from heap_alloc_new _ _)
    have HZ2 := Lib.hid (show ((wa2.alloc (Obj.cells #[.string ⟨#[97, 47, 98]⟩, .string ⟨#[]⟩, .string ⟨#[100]⟩, .string ⟨#[98]⟩] 9)).alloc (Obj.cells #[.int .i64 5, .int .i64 1, .string ⟨#[100]⟩] 64)).heap[wa2.heap.size + 1]? = some (Obj.cells #[.int .i64 5, .int .i64 1, .string ⟨#[100]⟩] 64) from Blk.newAt _ _ _ (by simp))
    go_region_with (first
      | (go_at_call 15; refine (HFS.out _ (by first | exact H2.out.drew | exact H2a.out.drew | exact H2b.out.drew)).mono ?_; rintro e w5 ⟨r, rfl, hB5, hR5⟩; obtain ⟨RA, rcap, rfl⟩ := hR5.form; have HR5 := Lib.hid hR5; have HB5 := Lib.hid (show Below w.heap.size w w5 from by first | exact H2.out.drew.bel.trans (hB5.mono H2.out.drew.bel.size) | exact H2a.out.drew.bel.trans (hB5.mono H2a.out.drew.bel.size) | exact H2b.out.drew.bel.trans (hB5.mono H2b.out.drew.bel.size)); (try have hq5 : w5.cell? ⟨wa2.heap.size, 2, none⟩ = some (.string ⟨#[100]⟩) := (Blk.of_heap (hB5.block wa2.heap.size (by simp; try omega)) (t := 9) (by first | exact HZ.out | exact heap_alloc_lt _ _ (by simp) ▸ HZ.out)).cell 2); (try have hf5 : Blk w5 (wa2.heap.size + 1) 64 #[.int .i64 5, .int .i64 1, .string ⟨#[100]⟩] := Blk.of_heap (hB5.block (wa2.heap.size + 1) (by simp; try omega)) HZ2.out); clear hR5 hB5)
      | (go_at_call 17; refine (same_fnd (D := [⟨5, 1, ⟨#[100]⟩⟩]) (by first | exact HR5.out | exact HR5.out.keep ((Below.refl _ w5).alloc (Nat.le_refl _) _) | exact HR5.out.keep (((Below.refl _ w5).alloc (Nat.le_refl _) _).alloc (by simp) _)) (lit1 (f := ⟨5, 1, ⟨#[100]⟩⟩) (by first | exact hf5 | exact Blk.new _ _ _ | exact Blk.newAt _ _ _ (by simp))) (by simp)).mono ?_; rintro e w8 ⟨rfl, dd, rfl⟩))
    all_goals (go_wp2_with (fail); go_ret; first | exact ⟨rfl, bel_drewN HB5.out dd⟩ | exact ⟨rfl, bel_drewN (HB5.out.alloc HB5.out.size _) dd⟩ | exact ⟨rfl, bel_drewN ((HB5.out.alloc HB5.out.size _).alloc (by simp; have := HB5.out.size; omega) _) dd⟩)
  ·
    have H1 := Lib.hid (H0.out.alloc (Obj.cells #[.string ⟨#[97, 47, 98]⟩, .string ⟨#[]⟩, .string ⟨#[100]⟩, .string ⟨#[98]⟩] 9))
    go_upto_region 5 with (fail)
    clear H0
    generalize w0.alloc (Obj.cells #[.string ⟨#[97, 47, 98]⟩, .string ⟨#[]⟩, .string ⟨#[100]⟩, .string ⟨#[98]⟩] 9) = wa1 at *
    have s0 : wa1.cell? ⟨sb, 0, none⟩ = some (.slice (some ⟨g, 0, none⟩) 5 5) := H1.out.st.cell 0
    have i2 : wa1.cell? ⟨g, 2, none⟩ = some (.slice (some ⟨e1, 0, none⟩) 3 3) := H1.out.ino.cell 2
    have tt : wa1.cell? ⟨e1, 2, none⟩ = some (.string ⟨#[102]⟩) := H1.out.ent1.cell 2
    have ft : wa1.frozen? ⟨e1, 2, none⟩ = false := H1.out.ent1.frozen 2
    have H2 := Lib.hid (H1.out.setE1 2 (.string ⟨#[98]⟩))
    go_upto_region 6 with (fail)
    clear s0 i2 tt ft H1
    generalize wa1.setCell ⟨e1, 2, none⟩ (.string ⟨#[98]⟩) = wa2 at *
    have H2a := Lib.hid (H2.out.alloc (Obj.cells #[.string ⟨#[97, 47, 98]⟩, .string ⟨#[]⟩, .string ⟨#[100]⟩, .string ⟨#[98]⟩] 9))
    have H2b := Lib.hid (H2a.out.alloc (Obj.cells #[.int .i64 5, .int .i64 1, .string ⟨#[98]⟩] 64))
    have s0 : wa2.cell? ⟨sb, 0, none⟩ = some (.slice (some ⟨g, 0, none⟩) 5 5) := H2.out.st.cell 0
    have s1 : wa2.cell? ⟨sb, 1, none⟩ = some (.slice (some ⟨go, 0, none⟩) 1 1) := H2.out.st.cell 1
    have s2 : wa2.cell? ⟨sb, 2, none⟩ = some (.slice (some ⟨gm, 0, none⟩) 2 2) := H2.out.st.cell 2
    have s0a : (wa2.alloc (Obj.cells #[.string ⟨#[97, 47, 98]⟩, .string ⟨#[]⟩, .string ⟨#[100]⟩, .string ⟨#[98]⟩] 9)).cell? ⟨sb, 0, none⟩ = some (.slice (some ⟨g, 0, none⟩) 5 5) := H2a.out.st.cell 0
    have s1a : (wa2.alloc (Obj.cells #[.string ⟨#[97, 47, 98]⟩, .string ⟨#[]⟩, .string ⟨#[100]⟩, .string ⟨#[98]⟩] 9)).cell? ⟨sb, 1, none⟩ = some (.slice (some ⟨go, 0, none⟩) 1 1) := H2a.out.st.cell 1
    have s2a : (wa2.alloc (Obj.cells #[.string ⟨#[97, 47, 98]⟩, .string ⟨#[]⟩, .string ⟨#[100]⟩, .string ⟨#[98]⟩] 9)).cell? ⟨sb, 2, none⟩ = some (.slice (some ⟨gm, 0, none⟩) 2 2) := H2a.out.st.cell 2
    have s0b : ((wa2.alloc (Obj.cells #[.string ⟨#[97, 47, 98]⟩, .string ⟨#[]⟩, .string ⟨#[100]⟩, .string ⟨#[98]⟩] 9)).alloc (Obj.cells #[.int .i64 5, .int .i64 1, .string ⟨#[98]⟩] 64)).cell? ⟨sb, 0, none⟩ = some (.slice (some ⟨g, 0, none⟩) 5 5) := H2b.out.st.cell 0
    have s1b : ((wa2.alloc (Obj.cells #[.string ⟨#[97, 47, 98]⟩, .string ⟨#[]⟩, .string ⟨#[100]⟩, .string ⟨#[98]⟩] 9)).alloc (Obj.cells #[.int .i64 5, .int .i64 1, .string ⟨#[98]⟩] 64)).cell? ⟨sb, 1, none⟩ = some (.slice (some ⟨go, 0, none⟩) 1 1) := H2b.out.st.cell 1
    have s2b : ((wa2.alloc (Obj.cells #[.string ⟨#[97, 47, 98]⟩, .string ⟨#[]⟩, .string ⟨#[100]⟩, .string ⟨#[98]⟩] 9)).alloc (Obj.cells #[.int .i64 5, .int .i64 1, .string ⟨#[98]⟩] 64)).cell? ⟨sb, 2, none⟩ = some (.slice (some ⟨gm, 0, none⟩) 2 2) := H2b.out.st.cell 2
    have HFS := Lib.hid (show ∀ W, WF w W sb g go gm e1 e2 (svW g go gm) (wholeI e1 e2) (wholeE1.setIfInBounds 2 (.string ⟨#[98]⟩)) wholeE2 #[.int .i64 1, .int .i64 2, .int .i64 11] #[.int .i64 3, .int .i64 2] → Calls Try.prog 15 #[.agg #[.slice (some ⟨g, 0, none⟩) 5 5, .slice (some ⟨go, 0, none⟩) 1 1, .slice (some ⟨gm, 0, none⟩) 2 2]] W fun e w' => ∃ r, e = .returned r ∧ Below W.heap.size W w' ∧ RowAt w' r [(⟨5, 1, ⟨#[98]⟩⟩ : Fnd)].length 3 (fndC [⟨5, 1, ⟨#[98]⟩⟩]) from fun W H => found_out (whole_stm (a := [(⟨#[100]⟩, 2), (⟨#[98]⟩, 3), (⟨#[103]⟩, 3)]) (b := hS) (d2 := ⟨#[]⟩) (d3 := ⟨#[116, 104, 114, 101, 101]⟩) (n4 := 10) (n5 := 11) (O := [(1, 2, 11)]) (M := [3, 2]) H.ino (blk32 H.ent1 (Nat.le_refl _) rfl rfl rfl rfl rfl rfl) (blk12 H.ent2 (Nat.le_refl _) rfl rfl) (blk13 H.opn (Nat.le_refl _) rfl rfl rfl) (blk21 H.mad (Nat.le_refl _) rfl rfl)) (small_of (by kernel_rfl)) (rise_one _) ev_na3)
    have HZ := Lib.hid (show (wa2.alloc (Obj.cells #[.string ⟨#[97, 47, 98]⟩, .string ⟨#[]⟩, .string ⟨#[100]⟩, .string ⟨#[98]⟩] 9)).heap[wa2.heap.size]? = some (Obj.cells #[.string ⟨#[97, 47, 98]⟩, .string ⟨#[]⟩, .string ⟨#[100]⟩, .string ⟨#[98]⟩] 9) from heap_alloc_new _ _)
    have HZ2 := Lib.hid (show ((wa2.alloc (Obj.cells #[.string ⟨#[97, 47, 98]⟩, .string ⟨#[]⟩, .string ⟨#[100]⟩, .string ⟨#[98]⟩] 9)).alloc (Obj.cells #[.int .i64 5, .int .i64 1, .string ⟨#[98]⟩] 64)).heap[wa2.heap.size + 1]? = some (Obj.cells #[.int .i64 5, .int .i64 1, .string ⟨#[98]⟩] 64) from Blk.newAt _ _ _ (by simp))
    go_region_with (first
      | (go_at_call 15; refine (HFS.out _ (by first | exact H2.out.drew | exact H2a.out.drew | exact H2b.out.drew)).mono ?_; rintro e w5 ⟨r, rfl, hB5, hR5⟩; obtain ⟨RA, rcap, rfl⟩ := hR5.form; have HR5 := Lib.hid hR5; have HB5 := Lib.hid (show Below w.heap.size w w5 from by first | exact H2.out.drew.bel.trans (hB5.mono H2.out.drew.bel.size) | exact H2a.out.drew.bel.trans (hB5.mono H2a.out.drew.bel.size) | exact H2b.out.drew.bel.trans (hB5.mono H2b.out.drew.bel.size)); (try have hq5 : w5.cell? ⟨wa2.heap.size, 3, none⟩ = some (.string ⟨#[98]⟩) := (Blk.of_heap (hB5.block wa2.heap.size (by simp; try omega)) (t := 9) (by first | exact HZ.out | exact heap_alloc_lt _ _ (by simp) ▸ HZ.out)).cell 3); (try have hf5 : Blk w5 (wa2.heap.size + 1) 64 #[.int .i64 5, .int .i64 1, .string ⟨#[98]⟩] := Blk.of_heap (hB5.block (wa2.heap.size + 1) (by simp; try omega)) HZ2.out); clear hR5 hB5)
      | (go_at_call 17; refine (same_fnd (D := [⟨5, 1, ⟨#[98]⟩⟩]) (by first | exact HR5.out | exact HR5.out.keep ((Below.refl _ w5).alloc (Nat.le_refl _) _) | exact HR5.out.keep (((Below.refl _ w5).alloc (Nat.le_refl _) _).alloc (by simp) _)) (lit1 (f := ⟨5, 1, ⟨#[98]⟩⟩) (by first | exact hf5 | exact Blk.new _ _ _ | exact Blk.newAt _ _ _ (by simp))) (by simp)).mono ?_; rintro e w8 ⟨rfl, dd, rfl⟩))
    all_goals (go_wp2_with (fail); go_ret; first | exact ⟨rfl, bel_drewN HB5.out dd⟩ | exact ⟨rfl, bel_drewN (HB5.out.alloc HB5.out.size _) dd⟩ | exact ⟨rfl, bel_drewN ((HB5.out.alloc HB5.out.size _).alloc (by simp; have := HB5.out.size; omega) _) dd⟩)
end Go.Proofs.Ytenlffhoinialaa
