
/- law20: CheckTwice. (Printed by wip/genck.py.) -/
import Derived.Test.YtenlffhoinialaaLawCk2
namespace Go.Proofs.Ytenlffhoinialaa
open Go.RowKit
set_option maxHeartbeats 1000000
attribute [local go_sem ↓] Go.wp_at_zero Go.wp_at_succ
set_option maxRecDepth 100000 in
theorem ev_tw0 : rawF (wS [(⟨#[100]⟩, 2), (⟨#[102]⟩, 2), (⟨#[103]⟩, 3)] hS ⟨#[]⟩ ⟨#[116, 104, 114, 101, 101]⟩ 10 11 [(1, 2, 11)] [3, 2]) = [⟨3, 2, nm0⟩] := by rw [raw_c]; kernel_rfl
set_option maxRecDepth 100000 in
theorem ev_tw1 : rawF (wS [(⟨#[100]⟩, 2), (⟨#[102]⟩, 3), (⟨#[103]⟩, 2)] hS ⟨#[]⟩ ⟨#[116, 104, 114, 101, 101]⟩ 10 11 [(1, 2, 11)] [3, 2]) = [⟨3, 2, nm0⟩] := by rw [raw_c]; kernel_rfl
set_option maxRecDepth 1000000 in
theorem ctwice_walk (w : World) (v : Int) (_ : (Lit.int .i64 v).wf = true) :
    Calls Try.prog 7 #[.int .i64 v] w fun e w' => e = .returned (.bool true) ∧ Below w.heap.size w w' := by
  go_enter Try.func7, Try.ntmps7
  go_wp2_with (fail)
  refine (awake_calls w).mono ?_
  rintro e w1 ⟨rfl, hB1⟩
  go_wp2_with (fail)
  refine (whole_calls w1).mono ?_
  rintro e w2 ⟨g, go, gm, e1, e2, rfl, hW⟩
  have H0 := Lib.hid (WF.start hW hB1 #[.slice (some ⟨g, 0, none⟩) 5 5, .slice (some ⟨go, 0, none⟩) 1 1, .slice (some ⟨gm, 0, none⟩) 2 2])
  clear hB1 hW
  go_upto_region 4 with (fail)
  generalize w2.alloc (Obj.cells #[.slice (some ⟨g, 0, none⟩) 5 5, .slice (some ⟨go, 0, none⟩) 1 1, .slice (some ⟨gm, 0, none⟩) 2 2] 26) = w0 at *
  generalize w2.heap.size = sb at *
  rcases bit1 v with hv | hv
  ·
    have s0 : w0.cell? ⟨sb, 0, none⟩ = some (.slice (some ⟨g, 0, none⟩) 5 5) := H0.out.st.cell 0
    have i2 : w0.cell? ⟨g, 2, none⟩ = some (.slice (some ⟨e1, 0, none⟩) 3 3) := H0.out.ino.cell 2
    have tt : w0.cell? ⟨e1, 3, none⟩ = some (.int .i64 3) := H0.out.ent1.cell 3
    have ft : w0.frozen? ⟨e1, 3, none⟩ = false := H0.out.ent1.frozen 3
    have H1 := Lib.hid (H0.out.setE1 3 (.int .i64 2))
    go_upto_region 5 with (fail)
    clear s0 i2 tt ft H0
    generalize w0.setCell ⟨e1, 3, none⟩ (.int .i64 2) = wa1 at *
    have s0 : wa1.cell? ⟨sb, 0, none⟩ = some (.slice (some ⟨g, 0, none⟩) 5 5) := H1.out.st.cell 0
    have s1 : wa1.cell? ⟨sb, 1, none⟩ = some (.slice (some ⟨go, 0, none⟩) 1 1) := H1.out.st.cell 1
    have s2 : wa1.cell? ⟨sb, 2, none⟩ = some (.slice (some ⟨gm, 0, none⟩) 2 2) := H1.out.st.cell 2
    have HF := Lib.hid (found_out (whole_stm (a := [(⟨#[100]⟩, 2), (⟨#[102]⟩, 2), (⟨#[103]⟩, 3)]) (b := hS) (d2 := ⟨#[]⟩) (d3 := ⟨#[116, 104, 114, 101, 101]⟩) (n4 := 10) (n5 := 11) (O := [(1, 2, 11)]) (M := [3, 2]) H1.out.ino (blk32 H1.out.ent1 (Nat.le_refl _) rfl rfl rfl rfl rfl rfl) (blk12 H1.out.ent2 (Nat.le_refl _) rfl rfl) (blk13 H1.out.opn (Nat.le_refl _) rfl rfl rfl) (blk21 H1.out.mad (Nat.le_refl _) rfl rfl)) (small_of (by kernel_rfl)) (rise_one _) ev_tw0)
    have HB := Lib.hid H1.out.bel
    clear H1
    go_wp2_with (fail)
    refine HF.out.mono ?_
    rintro e w5 ⟨r, rfl, hB5, hR5⟩
    have HSA := Lib.hid (same_lit (f := ⟨3, 2, nm0⟩) hR5)
    have HB5 := Lib.hid (HB.out.trans (hB5.mono HB.out.size))
    obtain ⟨RA, rcap, rfl⟩ := hR5.form
    clear hB5 hR5 s0 s1 s2 HF HB
    go_wp2_with (fail)
    refine HSA.out.mono ?_
    rintro e w8 ⟨rfl, hB8⟩
    have HB8 := Lib.hid (HB5.out.trans (hB8.mono HB5.out.size))
    clear hB8
    go_wp2_with (fail)
    go_ret
    exact ⟨rfl, HB8.out⟩
  ·
    have s0 : w0.cell? ⟨sb, 0, none⟩ = some (.slice (some ⟨g, 0, none⟩) 5 5) := H0.out.st.cell 0
    have i2 : w0.cell? ⟨g, 2, none⟩ = some (.slice (some ⟨e1, 0, none⟩) 3 3) := H0.out.ino.cell 2
    have tt : w0.cell? ⟨e1, 5, none⟩ = some (.int .i64 3) := H0.out.ent1.cell 5
    have ft : w0.frozen? ⟨e1, 5, none⟩ = false := H0.out.ent1.frozen 5
    have H1 := Lib.hid (H0.out.setE1 5 (.int .i64 2))
    go_upto_region 5 with (fail)
    clear s0 i2 tt ft H0
    generalize w0.setCell ⟨e1, 5, none⟩ (.int .i64 2) = wa1 at *
    have s0 : wa1.cell? ⟨sb, 0, none⟩ = some (.slice (some ⟨g, 0, none⟩) 5 5) := H1.out.st.cell 0
    have s1 : wa1.cell? ⟨sb, 1, none⟩ = some (.slice (some ⟨go, 0, none⟩) 1 1) := H1.out.st.cell 1
    have s2 : wa1.cell? ⟨sb, 2, none⟩ = some (.slice (some ⟨gm, 0, none⟩) 2 2) := H1.out.st.cell 2
    have HF := Lib.hid (found_out (whole_stm (a := [(⟨#[100]⟩, 2), (⟨#[102]⟩, 3), (⟨#[103]⟩, 2)]) (b := hS) (d2 := ⟨#[]⟩) (d3 := ⟨#[116, 104, 114, 101, 101]⟩) (n4 := 10) (n5 := 11) (O := [(1, 2, 11)]) (M := [3, 2]) H1.out.ino (blk32 H1.out.ent1 (Nat.le_refl _) rfl rfl rfl rfl rfl rfl) (blk12 H1.out.ent2 (Nat.le_refl _) rfl rfl) (blk13 H1.out.opn (Nat.le_refl _) rfl rfl rfl) (blk21 H1.out.mad (Nat.le_refl _) rfl rfl)) (small_of (by kernel_rfl)) (rise_one _) ev_tw1)
    have HB := Lib.hid H1.out.bel
    clear H1
    go_wp2_with (fail)
    refine HF.out.mono ?_
    rintro e w5 ⟨r, rfl, hB5, hR5⟩
    have HSA := Lib.hid (same_lit (f := ⟨3, 2, nm0⟩) hR5)
    have HB5 := Lib.hid (HB.out.trans (hB5.mono HB.out.size))
    obtain ⟨RA, rcap, rfl⟩ := hR5.form
    clear hB5 hR5 s0 s1 s2 HF HB
    go_wp2_with (fail)
    refine HSA.out.mono ?_
    rintro e w8 ⟨rfl, hB8⟩
    have HB8 := Lib.hid (HB5.out.trans (hB8.mono HB5.out.size))
    clear hB8
    go_wp2_with (fail)
    go_ret
    exact ⟨rfl, HB8.out⟩
end Go.Proofs.Ytenlffhoinialaa
