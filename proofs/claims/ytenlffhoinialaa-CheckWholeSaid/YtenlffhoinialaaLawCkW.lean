
/- law20: CheckWhole. (Printed by wip/genck.py.) -/
import Derived.Test.YtenlffhoinialaaLawCkD
namespace Go.Proofs.Ytenlffhoinialaa
open Go.RowKit
set_option maxHeartbeats 1000000
attribute [local go_sem ↓] Go.wp_at_zero Go.wp_at_succ
set_option maxRecDepth 1000000 in
theorem cwhole_walk (w : World) (d : ByteArray) (hds : d.size ≤ 1000000000000000000) (v : Int) (_ : (Lit.int .i64 v).wf = true) :
    Calls Try.prog 13 #[.string d, .int .i64 v] w fun e w' => e = .returned (.bool true) ∧ Below w.heap.size w w' := by
  go_enter Try.func13, Try.ntmps13
  go_wp2_with (fail)
  refine (awake_calls w).mono ?_
  rintro e w1 ⟨rfl, hB1⟩
  go_wp2_with (fail)
  refine (whole_calls w1).mono ?_
  rintro e w2 ⟨g, go, gm, e1, e2, rfl, hW⟩
  have H0 := Lib.hid (WF.start hW hB1 #[.slice (some ⟨g, 0, none⟩) 5 5, .slice (some ⟨go, 0, none⟩) 1 1, .slice (some ⟨gm, 0, none⟩) 2 2])
  clear hB1 hW
  go_upto_region 4 with (fail)
  generalize w2.alloc (Obj.cells #[.slice (some ⟨g, 0, none⟩) 5 5, .slice (some ⟨go, 0, none⟩) 1 1, .slice (some ⟨gm, 0, none⟩) 2 2] 26) = w0 at *
  generalize w2.heap.size = sb at *
  by_cases hL : 256 < d.size
  ·
    have hg : (256 : Int) < (d.size : Int) := by omega
    have hg2 : decide (256 < d.size) = true := decide_eq_true hL
    have hg3 : 256 ≤ d.size := by omega
    have hg4 : (256 : Int) ≤ (d.size : Int) := by omega
    have s0 : w0.cell? ⟨sb, 0, none⟩ = some (.slice (some ⟨g, 0, none⟩) 5 5) := H0.out.st.cell 0
    have tt : w0.cell? ⟨g, 11, none⟩ = some (.string ⟨#[116, 104, 114, 101, 101]⟩) := H0.out.ino.cell 11
    have ft : w0.frozen? ⟨g, 11, none⟩ = false := H0.out.ino.frozen 11
    have H1 := Lib.hid (H0.out.setI 11 (.string (d.extract 0 256)))
    go_upto_region 8 with (fail)
    clear s0 tt ft H0
    generalize w0.setCell ⟨g, 11, none⟩ (.string (d.extract 0 256)) = wa1 at *
    have s1 : wa1.cell? ⟨sb, 1, none⟩ = some (.slice (some ⟨go, 0, none⟩) 1 1) := H1.out.st.cell 1
    have tt : wa1.cell? ⟨go, 1, none⟩ = some (.int .i64 2) := H1.out.opn.cell 1
    have ft : wa1.frozen? ⟨go, 1, none⟩ = false := H1.out.opn.frozen 1
    have H2 := Lib.hid (H1.out.setO 1 (.int .i64 (v % 4)))
    go_upto_region 9 with (fail)
    clear s1 tt ft H1
    generalize wa1.setCell ⟨go, 1, none⟩ (.int .i64 (v % 4)) = wa2 at *
    have s0 : wa2.cell? ⟨sb, 0, none⟩ = some (.slice (some ⟨g, 0, none⟩) 5 5) := H2.out.st.cell 0
    have s1 : wa2.cell? ⟨sb, 1, none⟩ = some (.slice (some ⟨go, 0, none⟩) 1 1) := H2.out.st.cell 1
    have s2 : wa2.cell? ⟨sb, 2, none⟩ = some (.slice (some ⟨gm, 0, none⟩) 2 2) := H2.out.st.cell 2
    have HF := Lib.hid (found_out (whole_stm (a := dS) (b := hS) (d2 := ⟨#[]⟩) (d3 := (d.extract 0 256)) (n4 := 10) (n5 := 11) (O := [(1, v % 4, 11)]) (M := [3, 2]) H2.out.ino (blk32 H2.out.ent1 (Nat.le_refl _) rfl rfl rfl rfl rfl rfl) (blk12 H2.out.ent2 (Nat.le_refl _) rfl rfl) (blk13 H2.out.opn (Nat.le_refl _) rfl rfl rfl) (blk21 H2.out.mad (Nat.le_refl _) rfl rfl)) (small_of (by kernel_rfl)) rise_nil (ev_wh (by rw [ByteArray.size_extract]; omega) v))
    have HB := Lib.hid H2.out.bel
    clear H2
    go_wp2_with (fail)
    refine HF.out.mono ?_
    rintro e w5 ⟨r, rfl, hB5, hR5⟩
    have HB5 := Lib.hid (HB.out.trans (hB5.mono HB.out.size))
    obtain ⟨RA, rcap, rfl⟩ := hR5.form
    clear hB5 hR5 s0 s1 s2 HF HB
    go_wp2_with (fail)
    go_ret
    exact ⟨rfl, HB5.out⟩
  ·
    have hg : ¬ (256 : Int) < (d.size : Int) := by omega
    have hg2 : decide (256 < d.size) = false := decide_eq_false hL
    have s0 : w0.cell? ⟨sb, 0, none⟩ = some (.slice (some ⟨g, 0, none⟩) 5 5) := H0.out.st.cell 0
    have tt : w0.cell? ⟨g, 11, none⟩ = some (.string ⟨#[116, 104, 114, 101, 101]⟩) := H0.out.ino.cell 11
    have ft : w0.frozen? ⟨g, 11, none⟩ = false := H0.out.ino.frozen 11
    have H1 := Lib.hid (H0.out.setI 11 (.string (d)))
    go_upto_region 8 with (fail)
    clear s0 tt ft H0
    generalize w0.setCell ⟨g, 11, none⟩ (.string (d)) = wa1 at *
    have s1 : wa1.cell? ⟨sb, 1, none⟩ = some (.slice (some ⟨go, 0, none⟩) 1 1) := H1.out.st.cell 1
    have tt : wa1.cell? ⟨go, 1, none⟩ = some (.int .i64 2) := H1.out.opn.cell 1
    have ft : wa1.frozen? ⟨go, 1, none⟩ = false := H1.out.opn.frozen 1
    have H2 := Lib.hid (H1.out.setO 1 (.int .i64 (v % 4)))
    go_upto_region 9 with (fail)
    clear s1 tt ft H1
    generalize wa1.setCell ⟨go, 1, none⟩ (.int .i64 (v % 4)) = wa2 at *
    have s0 : wa2.cell? ⟨sb, 0, none⟩ = some (.slice (some ⟨g, 0, none⟩) 5 5) := H2.out.st.cell 0
    have s1 : wa2.cell? ⟨sb, 1, none⟩ = some (.slice (some ⟨go, 0, none⟩) 1 1) := H2.out.st.cell 1
    have s2 : wa2.cell? ⟨sb, 2, none⟩ = some (.slice (some ⟨gm, 0, none⟩) 2 2) := H2.out.st.cell 2
    have HF := Lib.hid (found_out (whole_stm (a := dS) (b := hS) (d2 := ⟨#[]⟩) (d3 := (d)) (n4 := 10) (n5 := 11) (O := [(1, v % 4, 11)]) (M := [3, 2]) H2.out.ino (blk32 H2.out.ent1 (Nat.le_refl _) rfl rfl rfl rfl rfl rfl) (blk12 H2.out.ent2 (Nat.le_refl _) rfl rfl) (blk13 H2.out.opn (Nat.le_refl _) rfl rfl rfl) (blk21 H2.out.mad (Nat.le_refl _) rfl rfl)) (small_of (by kernel_rfl)) rise_nil (ev_wh (by omega) v))
    have HB := Lib.hid H2.out.bel
    clear H2
    go_wp2_with (fail)
    refine HF.out.mono ?_
    rintro e w5 ⟨r, rfl, hB5, hR5⟩
    have HB5 := Lib.hid (HB.out.trans (hB5.mono HB.out.size))
    obtain ⟨RA, rcap, rfl⟩ := hR5.form
    clear hB5 hR5 s0 s1 s2 HF HB
    go_wp2_with (fail)
    go_ret
    exact ⟨rfl, HB5.out⟩
end Go.Proofs.Ytenlffhoinialaa
