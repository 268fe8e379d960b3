
/- law20: CheckRows. (Printed by wip/genck.py.) -/
import Derived.Test.YtenlffhoinialaaLawCk2
namespace Go.Proofs.Ytenlffhoinialaa
open Go.RowKit
set_option maxHeartbeats 1000000
attribute [local go_sem ↓] Go.wp_at_zero Go.wp_at_succ
set_option maxRecDepth 100000 in
theorem ev_ro0 : rawF (wS dS [(⟨#[104]⟩, 11)] ⟨#[]⟩ ⟨#[116, 104, 114, 101, 101]⟩ 11 10 [(1, 2, 10)] [3, 2]) = [⟨1, 10, nm0⟩] := by rw [raw_c]; kernel_rfl
set_option maxRecDepth 100000 in
theorem ev_ro1 : rawF (wS dS [(⟨#[104]⟩, 11)] ⟨#[]⟩ ⟨#[116, 104, 114, 101, 101]⟩ 11 11 [(1, 2, 11)] [3, 2]) = [⟨1, 11, nm0⟩] := by rw [raw_c]; kernel_rfl
set_option maxRecDepth 1000000 in
theorem crows_walk (w : World) (v : Int) (_ : (Lit.int .i64 v).wf = true) :
    Calls Try.prog 5 #[.int .i64 v] w fun e w' => e = .returned (.bool true) ∧ Below w.heap.size w w' := by
  go_enter Try.func5, Try.ntmps5
  go_wp2_with (fail)
  refine (awake_calls w).mono ?_
  rintro e w1 ⟨rfl, hB1⟩
  go_wp2_with (fail)
  refine (whole_calls w1).mono ?_
  rintro e w2 ⟨g, go, gm, e1, e2, rfl, hW⟩
  have H0 := Lib.hid (WF.start hW hB1 #[.slice (some ⟨g, 0, none⟩) 5 5, .slice (some ⟨go, 0, none⟩) 1 1, .slice (some ⟨gm, 0, none⟩) 2 2])
  clear hB1 hW
  go_upto_region 4 with (fail)
  generalize w2.alloc (Obj.cells #[.slice (some ⟨g, 0, none⟩) 5 5, .slice (some ⟨go, 0, none⟩) 1 1, .slice (some ⟨gm, 0, none⟩) 2 2] 26) = w0 at *
  generalize w2.heap.size = sb at *
  have s0 : w0.cell? ⟨sb, 0, none⟩ = some (.slice (some ⟨g, 0, none⟩) 5 5) := H0.out.st.cell 0
  have tt : w0.cell? ⟨g, 12, none⟩ = some (.int .i64 10) := H0.out.ino.cell 12
  have ft : w0.frozen? ⟨g, 12, none⟩ = false := H0.out.ino.frozen 12
  have H1 := Lib.hid (H0.out.setI 12 (.int .i64 11))
  go_upto_region 5 with (fail)
  clear s0 tt ft H0
  generalize w0.setCell ⟨g, 12, none⟩ (.int .i64 11) = wa1 at *
  rcases bit1 v with hv | hv
  ·
    have s0 : wa1.cell? ⟨sb, 0, none⟩ = some (.slice (some ⟨g, 0, none⟩) 5 5) := H1.out.st.cell 0
    have tt : wa1.cell? ⟨g, 16, none⟩ = some (.int .i64 11) := H1.out.ino.cell 16
    have ft : wa1.frozen? ⟨g, 16, none⟩ = false := H1.out.ino.frozen 16
    have H2 := Lib.hid (H1.out.setI 16 (.int .i64 10))
    go_upto_region 6 with (fail)
    clear s0 tt ft H1
    generalize wa1.setCell ⟨g, 16, none⟩ (.int .i64 10) = wa2 at *
    have s0 : wa2.cell? ⟨sb, 0, none⟩ = some (.slice (some ⟨g, 0, none⟩) 5 5) := H2.out.st.cell 0
    have i6 : wa2.cell? ⟨g, 6, none⟩ = some (.slice (some ⟨e2, 0, none⟩) 1 1) := H2.out.ino.cell 6
    have tt : wa2.cell? ⟨e2, 1, none⟩ = some (.int .i64 10) := H2.out.ent2.cell 1
    have ft : wa2.frozen? ⟨e2, 1, none⟩ = false := H2.out.ent2.frozen 1
    have H3 := Lib.hid (H2.out.setE2 1 (.int .i64 11))
    go_upto_region 7 with (fail)
    clear s0 i6 tt ft H2
    generalize wa2.setCell ⟨e2, 1, none⟩ (.int .i64 11) = wa3 at *
    have s1 : wa3.cell? ⟨sb, 1, none⟩ = some (.slice (some ⟨go, 0, none⟩) 1 1) := H3.out.st.cell 1
    have tt : wa3.cell? ⟨go, 2, none⟩ = some (.int .i64 11) := H3.out.opn.cell 2
    have ft : wa3.frozen? ⟨go, 2, none⟩ = false := H3.out.opn.frozen 2
    have H4 := Lib.hid (H3.out.setO 2 (.int .i64 11))
    go_upto_region 8 with (fail)
    clear s1 tt ft H3
    generalize wa3.setCell ⟨go, 2, none⟩ (.int .i64 11) = wa4 at *
    have s1 : wa4.cell? ⟨sb, 1, none⟩ = some (.slice (some ⟨go, 0, none⟩) 1 1) := H4.out.st.cell 1
    have tt : wa4.cell? ⟨go, 2, none⟩ = some (.int .i64 11) := H4.out.opn.cell 2
    have ft : wa4.frozen? ⟨go, 2, none⟩ = false := H4.out.opn.frozen 2
    have H5 := Lib.hid (H4.out.setO 2 (.int .i64 10))
    go_upto_region 10 with (fail)
    clear s1 tt ft H4
    generalize wa4.setCell ⟨go, 2, none⟩ (.int .i64 10) = wa5 at *
    have s0 : wa5.cell? ⟨sb, 0, none⟩ = some (.slice (some ⟨g, 0, none⟩) 5 5) := H5.out.st.cell 0
    have s1 : wa5.cell? ⟨sb, 1, none⟩ = some (.slice (some ⟨go, 0, none⟩) 1 1) := H5.out.st.cell 1
    have s2 : wa5.cell? ⟨sb, 2, none⟩ = some (.slice (some ⟨gm, 0, none⟩) 2 2) := H5.out.st.cell 2
    have HF := Lib.hid (found_out (whole_stm (a := dS) (b := [(⟨#[104]⟩, 11)]) (d2 := ⟨#[]⟩) (d3 := ⟨#[116, 104, 114, 101, 101]⟩) (n4 := 11) (n5 := 10) (O := [(1, 2, 10)]) (M := [3, 2]) H5.out.ino (blk32 H5.out.ent1 (Nat.le_refl _) rfl rfl rfl rfl rfl rfl) (blk12 H5.out.ent2 (Nat.le_refl _) rfl rfl) (blk13 H5.out.opn (Nat.le_refl _) rfl rfl rfl) (blk21 H5.out.mad (Nat.le_refl _) rfl rfl)) (small_of (by kernel_rfl)) (rise_one _) ev_ro0)
    have HB := Lib.hid H5.out.bel
    clear H5
    go_wp2_with (fail)
    refine HF.out.mono ?_
    rintro e w5 ⟨r, rfl, hB5, hR5⟩
    have HSA := Lib.hid (same_lit (f := ⟨1, 10, nm0⟩) hR5)
    have HB5 := Lib.hid (HB.out.trans (hB5.mono HB.out.size))
    obtain ⟨RA, rcap, rfl⟩ := hR5.form
    clear hB5 hR5 s0 s1 s2 HF HB
    go_wp2_with (go_at_call 29; go_in)
    refine HSA.out.mono ?_
    rintro e w8 ⟨rfl, hB8⟩
    have HB8 := Lib.hid (HB5.out.trans (hB8.mono HB5.out.size))
    clear hB8
    go_wp2_with (fail)
    go_ret
    exact ⟨rfl, HB8.out⟩
  ·
    have s0 : wa1.cell? ⟨sb, 0, none⟩ = some (.slice (some ⟨g, 0, none⟩) 5 5) := H1.out.st.cell 0
    have tt : wa1.cell? ⟨g, 16, none⟩ = some (.int .i64 11) := H1.out.ino.cell 16
    have ft : wa1.frozen? ⟨g, 16, none⟩ = false := H1.out.ino.frozen 16
    have H2 := Lib.hid (H1.out.setI 16 (.int .i64 11))
    go_upto_region 6 with (fail)
    clear s0 tt ft H1
    generalize wa1.setCell ⟨g, 16, none⟩ (.int .i64 11) = wa2 at *
    have s0 : wa2.cell? ⟨sb, 0, none⟩ = some (.slice (some ⟨g, 0, none⟩) 5 5) := H2.out.st.cell 0
    have i6 : wa2.cell? ⟨g, 6, none⟩ = some (.slice (some ⟨e2, 0, none⟩) 1 1) := H2.out.ino.cell 6
    have tt : wa2.cell? ⟨e2, 1, none⟩ = some (.int .i64 10) := H2.out.ent2.cell 1
    have ft : wa2.frozen? ⟨e2, 1, none⟩ = false := H2.out.ent2.frozen 1
    have H3 := Lib.hid (H2.out.setE2 1 (.int .i64 11))
    go_upto_region 7 with (fail)
    clear s0 i6 tt ft H2
    generalize wa2.setCell ⟨e2, 1, none⟩ (.int .i64 11) = wa3 at *
    have s1 : wa3.cell? ⟨sb, 1, none⟩ = some (.slice (some ⟨go, 0, none⟩) 1 1) := H3.out.st.cell 1
    have tt : wa3.cell? ⟨go, 2, none⟩ = some (.int .i64 11) := H3.out.opn.cell 2
    have ft : wa3.frozen? ⟨go, 2, none⟩ = false := H3.out.opn.frozen 2
    have H4 := Lib.hid (H3.out.setO 2 (.int .i64 11))
    go_upto_region 8 with (fail)
    clear s1 tt ft H3
    generalize wa3.setCell ⟨go, 2, none⟩ (.int .i64 11) = wa4 at *
    go_upto_region 10 with (fail)
    have s0 : wa4.cell? ⟨sb, 0, none⟩ = some (.slice (some ⟨g, 0, none⟩) 5 5) := H4.out.st.cell 0
    have s1 : wa4.cell? ⟨sb, 1, none⟩ = some (.slice (some ⟨go, 0, none⟩) 1 1) := H4.out.st.cell 1
    have s2 : wa4.cell? ⟨sb, 2, none⟩ = some (.slice (some ⟨gm, 0, none⟩) 2 2) := H4.out.st.cell 2
    have HF := Lib.hid (found_out (whole_stm (a := dS) (b := [(⟨#[104]⟩, 11)]) (d2 := ⟨#[]⟩) (d3 := ⟨#[116, 104, 114, 101, 101]⟩) (n4 := 11) (n5 := 11) (O := [(1, 2, 11)]) (M := [3, 2]) H4.out.ino (blk32 H4.out.ent1 (Nat.le_refl _) rfl rfl rfl rfl rfl rfl) (blk12 H4.out.ent2 (Nat.le_refl _) rfl rfl) (blk13 H4.out.opn (Nat.le_refl _) rfl rfl rfl) (blk21 H4.out.mad (Nat.le_refl _) rfl rfl)) (small_of (by kernel_rfl)) (rise_one _) ev_ro1)
    have HB := Lib.hid H4.out.bel
    clear H4
    go_wp2_with (fail)
    refine HF.out.mono ?_
    rintro e w5 ⟨r, rfl, hB5, hR5⟩
    have HSA := Lib.hid (same_lit (f := ⟨1, 11, nm0⟩) hR5)
    have HB5 := Lib.hid (HB.out.trans (hB5.mono HB.out.size))
    obtain ⟨RA, rcap, rfl⟩ := hR5.form
    clear hB5 hR5 s0 s1 s2 HF HB
    go_wp2_with (go_at_call 29; go_in)
    refine HSA.out.mono ?_
    rintro e w8 ⟨rfl, hB8⟩
    have HB8 := Lib.hid (HB5.out.trans (hB8.mono HB5.out.size))
    clear hB8
    go_wp2_with (fail)
    go_ret
    exact ⟨rfl, HB8.out⟩
end Go.Proofs.Ytenlffhoinialaa
