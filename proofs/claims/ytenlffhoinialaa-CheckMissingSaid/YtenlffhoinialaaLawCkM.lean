
/- law20: CheckMissing. (Printed by wip/genck.py.) -/
import Derived.Test.YtenlffhoinialaaLawCk2
namespace Go.Proofs.Ytenlffhoinialaa
open Go.RowKit
set_option maxHeartbeats 1000000
attribute [local go_sem ↓] Go.wp_at_zero Go.wp_at_succ
set_option maxRecDepth 100000 in
theorem ev_mi0 : rawF (wS [(⟨#[100]⟩, 2), (⟨#[102]⟩, 77), (⟨#[103]⟩, 3)] hS ⟨#[]⟩ ⟨#[116, 104, 114, 101, 101]⟩ 10 11 [(1, 2, 11)] [3, 2]) = [⟨2, 1, ⟨#[102]⟩⟩] := by rw [raw_c]; kernel_rfl
set_option maxRecDepth 100000 in
theorem ev_mi1 : rawF (wS [(⟨#[100]⟩, 2), (⟨#[102]⟩, 1), (⟨#[103]⟩, 3)] hS ⟨#[]⟩ ⟨#[116, 104, 114, 101, 101]⟩ 10 11 [(1, 2, 11)] [3, 2]) = [⟨2, 1, ⟨#[102]⟩⟩] := by rw [raw_c]; kernel_rfl
set_option maxRecDepth 100000 in
theorem ev_mi2 : rawF (wS [(⟨#[100]⟩, 2), (⟨#[102]⟩, 0), (⟨#[103]⟩, 3)] hS ⟨#[]⟩ ⟨#[116, 104, 114, 101, 101]⟩ 10 11 [(1, 2, 11)] [3, 2]) = [⟨2, 1, ⟨#[102]⟩⟩] := by rw [raw_c]; kernel_rfl
set_option maxRecDepth 100000 in
theorem ev_mi3 : rawF (wS [(⟨#[100]⟩, 2), (⟨#[102]⟩, (-5)), (⟨#[103]⟩, 3)] hS ⟨#[]⟩ ⟨#[116, 104, 114, 101, 101]⟩ 10 11 [(1, 2, 11)] [3, 2]) = [⟨2, 1, ⟨#[102]⟩⟩] := by rw [raw_c]; kernel_rfl
set_option maxRecDepth 1000000 in
theorem cmiss_walk (w : World) (v : Int) (_ : (Lit.int .i64 v).wf = true) :
    Calls Try.prog 6 #[.int .i64 v] w fun e w' => e = .returned (.bool true) ∧ Below w.heap.size w w' := by
  go_enter Try.func6, Try.ntmps6
  go_wp2_with (fail)
  refine (awake_calls w).mono ?_
  rintro e w1 ⟨rfl, hB1⟩
  go_wp2_with (fail)
  refine (whole_calls w1).mono ?_
  rintro e w2 ⟨g, go, gm, e1, e2, rfl, hW⟩
  have H0 := Lib.hid (WF.start hW hB1 #[.slice (some ⟨g, 0, none⟩) 5 5, .slice (some ⟨go, 0, none⟩) 1 1, .slice (some ⟨gm, 0, none⟩) 2 2])
  clear hB1 hW
  go_upto_region 4 with (fail)
  generalize w2.alloc (Obj.cells #[.slice (some ⟨g, 0, none⟩) 5 5, .slice (some ⟨go, 0, none⟩) 1 1, .slice (some ⟨gm, 0, none⟩) 2 2] 26) = w0 at *
  generalize w2.heap.size = sb at *
  rcases bit3 v with hv | hv | hv | hv
  ·
    have H0a := Lib.hid (H0.out.alloc (Obj.cells #[.int .i64 77, .int .i64 1, .int .i64 0, .int .i64 (-5)] 3))
    have H0d := Lib.hid H0a.out.drew
    have s0 : w0.cell? ⟨sb, 0, none⟩ = some (.slice (some ⟨g, 0, none⟩) 5 5) := H0.out.st.cell 0
    have i2 : w0.cell? ⟨g, 2, none⟩ = some (.slice (some ⟨e1, 0, none⟩) 3 3) := H0.out.ino.cell 2
    have tt : w0.cell? ⟨e1, 3, none⟩ = some (.int .i64 3) := H0.out.ent1.cell 3
    have s0a : (w0.alloc (Obj.cells #[.int .i64 77, .int .i64 1, .int .i64 0, .int .i64 (-5)] 3)).cell? ⟨sb, 0, none⟩ = some (.slice (some ⟨g, 0, none⟩) 5 5) := H0a.out.st.cell 0
    have i2a : (w0.alloc (Obj.cells #[.int .i64 77, .int .i64 1, .int .i64 0, .int .i64 (-5)] 3)).cell? ⟨g, 2, none⟩ = some (.slice (some ⟨e1, 0, none⟩) 3 3) := H0a.out.ino.cell 2
    have tta : (w0.alloc (Obj.cells #[.int .i64 77, .int .i64 1, .int .i64 0, .int .i64 (-5)] 3)).cell? ⟨e1, 3, none⟩ = some (.int .i64 3) := H0a.out.ent1.cell 3
    have s0d : (w0.alloc (Obj.cells #[.int .i64 77, .int .i64 1, .int .i64 0, .int .i64 (-5)] 3)).drew.cell? ⟨sb, 0, none⟩ = some (.slice (some ⟨g, 0, none⟩) 5 5) := H0d.out.st.cell 0
    have i2d : (w0.alloc (Obj.cells #[.int .i64 77, .int .i64 1, .int .i64 0, .int .i64 (-5)] 3)).drew.cell? ⟨g, 2, none⟩ = some (.slice (some ⟨e1, 0, none⟩) 3 3) := H0d.out.ino.cell 2
    have ttd : (w0.alloc (Obj.cells #[.int .i64 77, .int .i64 1, .int .i64 0, .int .i64 (-5)] 3)).drew.cell? ⟨e1, 3, none⟩ = some (.int .i64 3) := H0d.out.ent1.cell 3
    have ft : w0.frozen? ⟨e1, 3, none⟩ = false := H0.out.ent1.frozen 3
    have fta : (w0.alloc (Obj.cells #[.int .i64 77, .int .i64 1, .int .i64 0, .int .i64 (-5)] 3)).frozen? ⟨e1, 3, none⟩ = false := H0a.out.ent1.frozen 3
    have ftd : (w0.alloc (Obj.cells #[.int .i64 77, .int .i64 1, .int .i64 0, .int .i64 (-5)] 3)).drew.frozen? ⟨e1, 3, none⟩ = false := H0d.out.ent1.frozen 3
    have H1 := Lib.hid ((H0a.out.setE1 3 (.int .i64 77)).drew)
    go_upto_region 4 with (fail)
    go_region
    go_upto_region 5 with (fail)
    clear s0 i2 tt s0a i2a tta s0d i2d ttd ft fta ftd H0 H0d H0a
    generalize ((w0.alloc (Obj.cells #[.int .i64 77, .int .i64 1, .int .i64 0, .int .i64 (-5)] 3)).setCell ⟨e1, 3, none⟩ (.int .i64 77)).drew = wa1 at *
    have s0 : wa1.cell? ⟨sb, 0, none⟩ = some (.slice (some ⟨g, 0, none⟩) 5 5) := H1.out.st.cell 0
    have s1 : wa1.cell? ⟨sb, 1, none⟩ = some (.slice (some ⟨go, 0, none⟩) 1 1) := H1.out.st.cell 1
    have s2 : wa1.cell? ⟨sb, 2, none⟩ = some (.slice (some ⟨gm, 0, none⟩) 2 2) := H1.out.st.cell 2
    have HF := Lib.hid (found_out (whole_stm (a := [(⟨#[100]⟩, 2), (⟨#[102]⟩, 77), (⟨#[103]⟩, 3)]) (b := hS) (d2 := ⟨#[]⟩) (d3 := ⟨#[116, 104, 114, 101, 101]⟩) (n4 := 10) (n5 := 11) (O := [(1, 2, 11)]) (M := [3, 2]) H1.out.ino (blk32 H1.out.ent1 (Nat.le_refl _) rfl rfl rfl rfl rfl rfl) (blk12 H1.out.ent2 (Nat.le_refl _) rfl rfl) (blk13 H1.out.opn (Nat.le_refl _) rfl rfl rfl) (blk21 H1.out.mad (Nat.le_refl _) rfl rfl)) (small_of (by kernel_rfl)) (rise_one _) ev_mi0)
    have HB := Lib.hid H1.out.bel
    clear H1
    go_wp2_with (fail)
    refine HF.out.mono ?_
    rintro e w5 ⟨r, rfl, hB5, hR5⟩
    have HSA := Lib.hid (same_lit (f := ⟨2, 1, ⟨#[102]⟩⟩) hR5)
    have HB5 := Lib.hid (HB.out.trans (hB5.mono HB.out.size))
    obtain ⟨RA, rcap, rfl⟩ := hR5.form
    clear hB5 hR5 s0 s1 s2 HF HB
    go_wp2_with (fail)
    refine HSA.out.mono ?_
    rintro e w8 ⟨rfl, hB8⟩
    have HB8 := Lib.hid (HB5.out.trans (hB8.mono HB5.out.size))
    clear hB8
    go_wp2_with (fail)
    go_ret
    exact ⟨rfl, HB8.out⟩
  ·
    have H0a := Lib.hid (H0.out.alloc (Obj.cells #[.int .i64 77, .int .i64 1, .int .i64 0, .int .i64 (-5)] 3))
    have H0d := Lib.hid H0a.out.drew
    have s0 : w0.cell? ⟨sb, 0, none⟩ = some (.slice (some ⟨g, 0, none⟩) 5 5) := H0.out.st.cell 0
    have i2 : w0.cell? ⟨g, 2, none⟩ = some (.slice (some ⟨e1, 0, none⟩) 3 3) := H0.out.ino.cell 2
    have tt : w0.cell? ⟨e1, 3, none⟩ = some (.int .i64 3) := H0.out.ent1.cell 3
    have s0a : (w0.alloc (Obj.cells #[.int .i64 77, .int .i64 1, .int .i64 0, .int .i64 (-5)] 3)).cell? ⟨sb, 0, none⟩ = some (.slice (some ⟨g, 0, none⟩) 5 5) := H0a.out.st.cell 0
    have i2a : (w0.alloc (Obj.cells #[.int .i64 77, .int .i64 1, .int .i64 0, .int .i64 (-5)] 3)).cell? ⟨g, 2, none⟩ = some (.slice (some ⟨e1, 0, none⟩) 3 3) := H0a.out.ino.cell 2
    have tta : (w0.alloc (Obj.cells #[.int .i64 77, .int .i64 1, .int .i64 0, .int .i64 (-5)] 3)).cell? ⟨e1, 3, none⟩ = some (.int .i64 3) := H0a.out.ent1.cell 3
    have s0d : (w0.alloc (Obj.cells #[.int .i64 77, .int .i64 1, .int .i64 0, .int .i64 (-5)] 3)).drew.cell? ⟨sb, 0, none⟩ = some (.slice (some ⟨g, 0, none⟩) 5 5) := H0d.out.st.cell 0
    have i2d : (w0.alloc (Obj.cells #[.int .i64 77, .int .i64 1, .int .i64 0, .int .i64 (-5)] 3)).drew.cell? ⟨g, 2, none⟩ = some (.slice (some ⟨e1, 0, none⟩) 3 3) := H0d.out.ino.cell 2
    have ttd : (w0.alloc (Obj.cells #[.int .i64 77, .int .i64 1, .int .i64 0, .int .i64 (-5)] 3)).drew.cell? ⟨e1, 3, none⟩ = some (.int .i64 3) := H0d.out.ent1.cell 3
    have ft : w0.frozen? ⟨e1, 3, none⟩ = false := H0.out.ent1.frozen 3
    have fta : (w0.alloc (Obj.cells #[.int .i64 77, .int .i64 1, .int .i64 0, .int .i64 (-5)] 3)).frozen? ⟨e1, 3, none⟩ = false := H0a.out.ent1.frozen 3
    have ftd : (w0.alloc (Obj.cells #[.int .i64 77, .int .i64 1, .int .i64 0, .int .i64 (-5)] 3)).drew.frozen? ⟨e1, 3, none⟩ = false := H0d.out.ent1.frozen 3
    have H1 := Lib.hid ((H0a.out.setE1 3 (.int .i64 1)).drew)
    go_upto_region 4 with (fail)
    go_region
    go_upto_region 5 with (fail)
    clear s0 i2 tt s0a i2a tta s0d i2d ttd ft fta ftd H0 H0d H0a
    generalize ((w0.alloc (Obj.cells #[.int .i64 77, .int .i64 1, .int .i64 0, .int .i64 (-5)] 3)).setCell ⟨e1, 3, none⟩ (.int .i64 1)).drew = wa1 at *
    have s0 : wa1.cell? ⟨sb, 0, none⟩ = some (.slice (some ⟨g, 0, none⟩) 5 5) := H1.out.st.cell 0
    have s1 : wa1.cell? ⟨sb, 1, none⟩ = some (.slice (some ⟨go, 0, none⟩) 1 1) := H1.out.st.cell 1
    have s2 : wa1.cell? ⟨sb, 2, none⟩ = some (.slice (some ⟨gm, 0, none⟩) 2 2) := H1.out.st.cell 2
    have HF := Lib.hid (found_out (whole_stm (a := [(⟨#[100]⟩, 2), (⟨#[102]⟩, 1), (⟨#[103]⟩, 3)]) (b := hS) (d2 := ⟨#[]⟩) (d3 := ⟨#[116, 104, 114, 101, 101]⟩) (n4 := 10) (n5 := 11) (O := [(1, 2, 11)]) (M := [3, 2]) H1.out.ino (blk32 H1.out.ent1 (Nat.le_refl _) rfl rfl rfl rfl rfl rfl) (blk12 H1.out.ent2 (Nat.le_refl _) rfl rfl) (blk13 H1.out.opn (Nat.le_refl _) rfl rfl rfl) (blk21 H1.out.mad (Nat.le_refl _) rfl rfl)) (small_of (by kernel_rfl)) (rise_one _) ev_mi1)
    have HB := Lib.hid H1.out.bel
    clear H1
    go_wp2_with (fail)
    refine HF.out.mono ?_
    rintro e w5 ⟨r, rfl, hB5, hR5⟩
    have HSA := Lib.hid (same_lit (f := ⟨2, 1, ⟨#[102]⟩⟩) hR5)
    have HB5 := Lib.hid (HB.out.trans (hB5.mono HB.out.size))
    obtain ⟨RA, rcap, rfl⟩ := hR5.form
    clear hB5 hR5 s0 s1 s2 HF HB
    go_wp2_with (fail)
    refine HSA.out.mono ?_
    rintro e w8 ⟨rfl, hB8⟩
    have HB8 := Lib.hid (HB5.out.trans (hB8.mono HB5.out.size))
    clear hB8
    go_wp2_with (fail)
    go_ret
    exact ⟨rfl, HB8.out⟩
  ·
    have H0a := Lib.hid (H0.out.alloc (Obj.cells #[.int .i64 77, .int .i64 1, .int .i64 0, .int .i64 (-5)] 3))
    have H0d := Lib.hid H0a.out.drew
    have s0 : w0.cell? ⟨sb, 0, none⟩ = some (.slice (some ⟨g, 0, none⟩) 5 5) := H0.out.st.cell 0
    have i2 : w0.cell? ⟨g, 2, none⟩ = some (.slice (some ⟨e1, 0, none⟩) 3 3) := H0.out.ino.cell 2
    have tt : w0.cell? ⟨e1, 3, none⟩ = some (.int .i64 3) := H0.out.ent1.cell 3
    have s0a : (w0.alloc (Obj.cells #[.int .i64 77, .int .i64 1, .int .i64 0, .int .i64 (-5)] 3)).cell? ⟨sb, 0, none⟩ = some (.slice (some ⟨g, 0, none⟩) 5 5) := H0a.out.st.cell 0
    have i2a : (w0.alloc (Obj.cells #[.int .i64 77, .int .i64 1, .int .i64 0, .int .i64 (-5)] 3)).cell? ⟨g, 2, none⟩ = some (.slice (some ⟨e1, 0, none⟩) 3 3) := H0a.out.ino.cell 2
    have tta : (w0.alloc (Obj.cells #[.int .i64 77, .int .i64 1, .int .i64 0, .int .i64 (-5)] 3)).cell? ⟨e1, 3, none⟩ = some (.int .i64 3) := H0a.out.ent1.cell 3
    have s0d : (w0.alloc (Obj.cells #[.int .i64 77, .int .i64 1, .int .i64 0, .int .i64 (-5)] 3)).drew.cell? ⟨sb, 0, none⟩ = some (.slice (some ⟨g, 0, none⟩) 5 5) := H0d.out.st.cell 0
    have i2d : (w0.alloc (Obj.cells #[.int .i64 77, .int .i64 1, .int .i64 0, .int .i64 (-5)] 3)).drew.cell? ⟨g, 2, none⟩ = some (.slice (some ⟨e1, 0, none⟩) 3 3) := H0d.out.ino.cell 2
    have ttd : (w0.alloc (Obj.cells #[.int .i64 77, .int .i64 1, .int .i64 0, .int .i64 (-5)] 3)).drew.cell? ⟨e1, 3, none⟩ = some (.int .i64 3) := H0d.out.ent1.cell 3
    have ft : w0.frozen? ⟨e1, 3, none⟩ = false := H0.out.ent1.frozen 3
    have fta : (w0.alloc (Obj.cells #[.int .i64 77, .int .i64 1, .int .i64 0, .int .i64 (-5)] 3)).frozen? ⟨e1, 3, none⟩ = false := H0a.out.ent1.frozen 3
    have ftd : (w0.alloc (Obj.cells #[.int .i64 77, .int .i64 1, .int .i64 0, .int .i64 (-5)] 3)).drew.frozen? ⟨e1, 3, none⟩ = false := H0d.out.ent1.frozen 3
    have H1 := Lib.hid ((H0a.out.setE1 3 (.int .i64 0)).drew)
    go_upto_region 4 with (fail)
    go_region
    go_upto_region 5 with (fail)
    clear s0 i2 tt s0a i2a tta s0d i2d ttd ft fta ftd H0 H0d H0a
    generalize ((w0.alloc (Obj.cells #[.int .i64 77, .int .i64 1, .int .i64 0, .int .i64 (-5)] 3)).setCell ⟨e1, 3, none⟩ (.int .i64 0)).drew = wa1 at *
    have s0 : wa1.cell? ⟨sb, 0, none⟩ = some (.slice (some ⟨g, 0, none⟩) 5 5) := H1.out.st.cell 0
    have s1 : wa1.cell? ⟨sb, 1, none⟩ = some (.slice (some ⟨go, 0, none⟩) 1 1) := H1.out.st.cell 1
    have s2 : wa1.cell? ⟨sb, 2, none⟩ = some (.slice (some ⟨gm, 0, none⟩) 2 2) := H1.out.st.cell 2
    have HF := Lib.hid (found_out (whole_stm (a := [(⟨#[100]⟩, 2), (⟨#[102]⟩, 0), (⟨#[103]⟩, 3)]) (b := hS) (d2 := ⟨#[]⟩) (d3 := ⟨#[116, 104, 114, 101, 101]⟩) (n4 := 10) (n5 := 11) (O := [(1, 2, 11)]) (M := [3, 2]) H1.out.ino (blk32 H1.out.ent1 (Nat.le_refl _) rfl rfl rfl rfl rfl rfl) (blk12 H1.out.ent2 (Nat.le_refl _) rfl rfl) (blk13 H1.out.opn (Nat.le_refl _) rfl rfl rfl) (blk21 H1.out.mad (Nat.le_refl _) rfl rfl)) (small_of (by kernel_rfl)) (rise_one _) ev_mi2)
    have HB := Lib.hid H1.out.bel
    clear H1
    go_wp2_with (fail)
    refine HF.out.mono ?_
    rintro e w5 ⟨r, rfl, hB5, hR5⟩
    have HSA := Lib.hid (same_lit (f := ⟨2, 1, ⟨#[102]⟩⟩) hR5)
    have HB5 := Lib.hid (HB.out.trans (hB5.mono HB.out.size))
    obtain ⟨RA, rcap, rfl⟩ := hR5.form
    clear hB5 hR5 s0 s1 s2 HF HB
    go_wp2_with (fail)
    refine HSA.out.mono ?_
    rintro e w8 ⟨rfl, hB8⟩
    have HB8 := Lib.hid (HB5.out.trans (hB8.mono HB5.out.size))
    clear hB8
    go_wp2_with (fail)
    go_ret
    exact ⟨rfl, HB8.out⟩
  ·
    have H0a := Lib.hid (H0.out.alloc (Obj.cells #[.int .i64 77, .int .i64 1, .int .i64 0, .int .i64 (-5)] 3))
    have H0d := Lib.hid H0a.out.drew
    have s0 : w0.cell? ⟨sb, 0, none⟩ = some (.slice (some ⟨g, 0, none⟩) 5 5) := H0.out.st.cell 0
    have i2 : w0.cell? ⟨g, 2, none⟩ = some (.slice (some ⟨e1, 0, none⟩) 3 3) := H0.out.ino.cell 2
    have tt : w0.cell? ⟨e1, 3, none⟩ = some (.int .i64 3) := H0.out.ent1.cell 3
    have s0a : (w0.alloc (Obj.cells #[.int .i64 77, .int .i64 1, .int .i64 0, .int .i64 (-5)] 3)).cell? ⟨sb, 0, none⟩ = some (.slice (some ⟨g, 0, none⟩) 5 5) := H0a.out.st.cell 0
    have i2a : (w0.alloc (Obj.cells #[.int .i64 77, .int .i64 1, .int .i64 0, .int .i64 (-5)] 3)).cell? ⟨g, 2, none⟩ = some (.slice (some ⟨e1, 0, none⟩) 3 3) := H0a.out.ino.cell 2
    have tta : (w0.alloc (Obj.cells #[.int .i64 77, .int .i64 1, .int .i64 0, .int .i64 (-5)] 3)).cell? ⟨e1, 3, none⟩ = some (.int .i64 3) := H0a.out.ent1.cell 3
    have s0d : (w0.alloc (Obj.cells #[.int .i64 77, .int .i64 1, .int .i64 0, .int .i64 (-5)] 3)).drew.cell? ⟨sb, 0, none⟩ = some (.slice (some ⟨g, 0, none⟩) 5 5) := H0d.out.st.cell 0
    have i2d : (w0.alloc (Obj.cells #[.int .i64 77, .int .i64 1, .int .i64 0, .int .i64 (-5)] 3)).drew.cell? ⟨g, 2, none⟩ = some (.slice (some ⟨e1, 0, none⟩) 3 3) := H0d.out.ino.cell 2
    have ttd : (w0.alloc (Obj.cells #[.int .i64 77, .int .i64 1, .int .i64 0, .int .i64 (-5)] 3)).drew.cell? ⟨e1, 3, none⟩ = some (.int .i64 3) := H0d.out.ent1.cell 3
    have ft : w0.frozen? ⟨e1, 3, none⟩ = false := H0.out.ent1.frozen 3
    have fta : (w0.alloc (Obj.cells #[.int .i64 77, .int .i64 1, .int .i64 0, .int .i64 (-5)] 3)).frozen? ⟨e1, 3, none⟩ = false := H0a.out.ent1.frozen 3
    have ftd : (w0.alloc (Obj.cells #[.int .i64 77, .int .i64 1, .int .i64 0, .int .i64 (-5)] 3)).drew.frozen? ⟨e1, 3, none⟩ = false := H0d.out.ent1.frozen 3
    have H1 := Lib.hid ((H0a.out.setE1 3 (.int .i64 (-5))).drew)
    go_upto_region 4 with (fail)
    go_region
    go_upto_region 5 with (fail)
    clear s0 i2 tt s0a i2a tta s0d i2d ttd ft fta ftd H0 H0d H0a
    generalize ((w0.alloc (Obj.cells #[.int .i64 77, .int .i64 1, .int .i64 0, .int .i64 (-5)] 3)).setCell ⟨e1, 3, none⟩ (.int .i64 (-5))).drew = wa1 at *
    have s0 : wa1.cell? ⟨sb, 0, none⟩ = some (.slice (some ⟨g, 0, none⟩) 5 5) := H1.out.st.cell 0
    have s1 : wa1.cell? ⟨sb, 1, none⟩ = some (.slice (some ⟨go, 0, none⟩) 1 1) := H1.out.st.cell 1
    have s2 : wa1.cell? ⟨sb, 2, none⟩ = some (.slice (some ⟨gm, 0, none⟩) 2 2) := H1.out.st.cell 2
    have HF := Lib.hid (found_out (whole_stm (a := [(⟨#[100]⟩, 2), (⟨#[102]⟩, (-5)), (⟨#[103]⟩, 3)]) (b := hS) (d2 := ⟨#[]⟩) (d3 := ⟨#[116, 104, 114, 101, 101]⟩) (n4 := 10) (n5 := 11) (O := [(1, 2, 11)]) (M := [3, 2]) H1.out.ino (blk32 H1.out.ent1 (Nat.le_refl _) rfl rfl rfl rfl rfl rfl) (blk12 H1.out.ent2 (Nat.le_refl _) rfl rfl) (blk13 H1.out.opn (Nat.le_refl _) rfl rfl rfl) (blk21 H1.out.mad (Nat.le_refl _) rfl rfl)) (small_of (by kernel_rfl)) (rise_one _) ev_mi3)
    have HB := Lib.hid H1.out.bel
    clear H1
    go_wp2_with (fail)
    refine HF.out.mono ?_
    rintro e w5 ⟨r, rfl, hB5, hR5⟩
    have HSA := Lib.hid (same_lit (f := ⟨2, 1, ⟨#[102]⟩⟩) hR5)
    have HB5 := Lib.hid (HB.out.trans (hB5.mono HB.out.size))
    obtain ⟨RA, rcap, rfl⟩ := hR5.form
    clear hB5 hR5 s0 s1 s2 HF HB
    go_wp2_with (fail)
    refine HSA.out.mono ?_
    rintro e w8 ⟨rfl, hB8⟩
    have HB8 := Lib.hid (HB5.out.trans (hB8.mono HB5.out.size))
    clear hB8
    go_wp2_with (fail)
    go_ret
    exact ⟨rfl, HB8.out⟩
end Go.Proofs.Ytenlffhoinialaa
