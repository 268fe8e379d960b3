
/- law20: CheckKinds. (Printed by wip/genck.py.) -/
import Derived.Test.YtenlffhoinialaaLawCkD
namespace Go.Proofs.Ytenlffhoinialaa
open Go.RowKit
set_option maxHeartbeats 1000000
attribute [local go_sem ↓] Go.wp_at_zero Go.wp_at_succ
set_option maxRecDepth 100000 in
theorem ev_ki0 : rawF (wS dS hS ⟨#[120]⟩ ⟨#[116, 104, 114, 101, 101]⟩ 10 11 [(1, 2, 11)] [3, 2]) = [⟨6, 2, nm0⟩] := by rw [raw_c]; kernel_rfl
set_option maxRecDepth 1000000 in
theorem ckinds_walk (w : World) (v : Int) (_ : (Lit.int .i64 v).wf = true) :
    Calls Try.prog 10 #[.int .i64 v] w fun e w' => e = .returned (.bool true) ∧ Below w.heap.size w w' := by
  go_enter Try.func10, Try.ntmps10
  go_wp2_with (fail)
  refine (awake_calls w).mono ?_
  rintro e w1 ⟨rfl, hB1⟩
  go_wp2_with (fail)
  refine (whole_calls w1).mono ?_
  rintro e w2 ⟨g, go, gm, e1, e2, rfl, hW⟩
  have H0 := Lib.hid (WF.start hW hB1 #[.slice (some ⟨g, 0, none⟩) 5 5, .slice (some ⟨go, 0, none⟩) 1 1, .slice (some ⟨gm, 0, none⟩) 2 2])
  clear hB1 hW
  go_upto_region 4 with (fail)
  generalize w2.alloc (Obj.cells #[.slice (some ⟨g, 0, none⟩) 5 5, .slice (some ⟨go, 0, none⟩) 1 1, .slice (some ⟨gm, 0, none⟩) 2 2] 26) = w0 at *
  generalize w2.heap.size = sb at *
  rcases bit1 v with hv | hv
  ·
    have s0 : w0.cell? ⟨sb, 0, none⟩ = some (.slice (some ⟨g, 0, none⟩) 5 5) := H0.out.st.cell 0
    have tt : w0.cell? ⟨g, 7, none⟩ = some (.string ⟨#[]⟩) := H0.out.ino.cell 7
    have ft : w0.frozen? ⟨g, 7, none⟩ = false := H0.out.ino.frozen 7
    have H1 := Lib.hid (H0.out.setI 7 (.string ⟨#[120]⟩))
    go_upto_region 7 with (fail)
    clear s0 tt ft H0
    generalize w0.setCell ⟨g, 7, none⟩ (.string ⟨#[120]⟩) = wa1 at *
    have s0 : wa1.cell? ⟨sb, 0, none⟩ = some (.slice (some ⟨g, 0, none⟩) 5 5) := H1.out.st.cell 0
    have s1 : wa1.cell? ⟨sb, 1, none⟩ = some (.slice (some ⟨go, 0, none⟩) 1 1) := H1.out.st.cell 1
    have s2 : wa1.cell? ⟨sb, 2, none⟩ = some (.slice (some ⟨gm, 0, none⟩) 2 2) := H1.out.st.cell 2
    have HF := Lib.hid (found_out (whole_stm (a := dS) (b := hS) (d2 := ⟨#[120]⟩) (d3 := ⟨#[116, 104, 114, 101, 101]⟩) (n4 := 10) (n5 := 11) (O := [(1, 2, 11)]) (M := [3, 2]) H1.out.ino (blk32 H1.out.ent1 (Nat.le_refl _) rfl rfl rfl rfl rfl rfl) (blk12 H1.out.ent2 (Nat.le_refl _) rfl rfl) (blk13 H1.out.opn (Nat.le_refl _) rfl rfl rfl) (blk21 H1.out.mad (Nat.le_refl _) rfl rfl)) (small_of (by kernel_rfl)) (rise_one _) ev_ki0)
    have HB := Lib.hid H1.out.bel
    clear H1
    go_wp2_with (fail)
    refine HF.out.mono ?_
    rintro e w5 ⟨r, rfl, hB5, hR5⟩
    have HSA := Lib.hid (same_lit (f := ⟨6, 2, nm0⟩) hR5)
    have HB5 := Lib.hid (HB.out.trans (hB5.mono HB.out.size))
    obtain ⟨RA, rcap, rfl⟩ := hR5.form
    clear hB5 hR5 s0 s1 s2 HF HB
    go_wp2_with (fail)
    refine HSA.out.mono ?_
    rintro e w8 ⟨rfl, hB8⟩
    have HB8 := Lib.hid (HB5.out.trans (hB8.mono HB5.out.size))
    clear hB8
    go_wp2_with (fail)
    go_ret
    exact ⟨rfl, HB8.out⟩
  ·
    obtain ⟨n, hn, hn1, hn2⟩ : ∃ n : Nat, 257 + v % 8 = (n : Int) ∧ 256 < n ∧ n ≤ 264 := ⟨(257 + v % 8).toNat, by omega, by omega, by omega⟩
    have hnw : IntKind.i64.wrap (257 + v % 8) = (n : Int) := by rw [hn]; exact IntWalk.i64_in _ (by omega)
    have hmk := make_zero n (by omega) w0
    have hmkd := make_zero n (by omega) w0.drew
    have H0a := Lib.hid (H0.out.alloc (Obj.cells (Array.replicate n (Value.int .u8 0)) 5))
    have H0d := Lib.hid H0a.out.drew
    have hcv := cv_zero (w := (w0.alloc (Obj.cells (Array.replicate n (Value.int .u8 0)) 5))) (cap := n) (Blk.new w0 5 (Array.replicate n (Value.int .u8 0)))
    have hcvd := cv_zero (w := (w0.alloc (Obj.cells (Array.replicate n (Value.int .u8 0)) 5)).drew) (cap := n) (Blk.new w0 5 (Array.replicate n (Value.int .u8 0)))
    have s0 : w0.cell? ⟨sb, 0, none⟩ = some (.slice (some ⟨g, 0, none⟩) 5 5) := H0.out.st.cell 0
    have tt : w0.cell? ⟨g, 11, none⟩ = some (.string ⟨#[116, 104, 114, 101, 101]⟩) := H0.out.ino.cell 11
    have s0a : (w0.alloc (Obj.cells (Array.replicate n (Value.int .u8 0)) 5)).cell? ⟨sb, 0, none⟩ = some (.slice (some ⟨g, 0, none⟩) 5 5) := H0a.out.st.cell 0
    have tta : (w0.alloc (Obj.cells (Array.replicate n (Value.int .u8 0)) 5)).cell? ⟨g, 11, none⟩ = some (.string ⟨#[116, 104, 114, 101, 101]⟩) := H0a.out.ino.cell 11
    have s0d : (w0.alloc (Obj.cells (Array.replicate n (Value.int .u8 0)) 5)).drew.cell? ⟨sb, 0, none⟩ = some (.slice (some ⟨g, 0, none⟩) 5 5) := H0d.out.st.cell 0
    have ttd : (w0.alloc (Obj.cells (Array.replicate n (Value.int .u8 0)) 5)).drew.cell? ⟨g, 11, none⟩ = some (.string ⟨#[116, 104, 114, 101, 101]⟩) := H0d.out.ino.cell 11
    have ft : w0.frozen? ⟨g, 11, none⟩ = false := H0.out.ino.frozen 11
    have fta : (w0.alloc (Obj.cells (Array.replicate n (Value.int .u8 0)) 5)).frozen? ⟨g, 11, none⟩ = false := H0a.out.ino.frozen 11
    have ftd : (w0.alloc (Obj.cells (Array.replicate n (Value.int .u8 0)) 5)).drew.frozen? ⟨g, 11, none⟩ = false := H0d.out.ino.frozen 11
    have H1 := Lib.hid ((H0a.out.setI 11 (.string ⟨Array.replicate n (0 : UInt8)⟩)).drew)
    go_upto_region 6 with (fail)
    go_region
    go_upto_region 7 with (fail)
    clear s0 tt s0a tta s0d ttd ft fta ftd H0 H0d H0a hmk hmkd hcv hcvd
    generalize ((w0.alloc (Obj.cells (Array.replicate n (Value.int .u8 0)) 5)).setCell ⟨g, 11, none⟩ (.string ⟨Array.replicate n (0 : UInt8)⟩)).drew = wa1 at *
    have s0 : wa1.cell? ⟨sb, 0, none⟩ = some (.slice (some ⟨g, 0, none⟩) 5 5) := H1.out.st.cell 0
    have s1 : wa1.cell? ⟨sb, 1, none⟩ = some (.slice (some ⟨go, 0, none⟩) 1 1) := H1.out.st.cell 1
    have s2 : wa1.cell? ⟨sb, 2, none⟩ = some (.slice (some ⟨gm, 0, none⟩) 2 2) := H1.out.st.cell 2
    have HF := Lib.hid (found_out (whole_stm (a := dS) (b := hS) (d2 := ⟨#[]⟩) (d3 := ⟨Array.replicate n (0 : UInt8)⟩) (n4 := 10) (n5 := 11) (O := [(1, 2, 11)]) (M := [3, 2]) H1.out.ino (blk32 H1.out.ent1 (Nat.le_refl _) rfl rfl rfl rfl rfl rfl) (blk12 H1.out.ent2 (Nat.le_refl _) rfl rfl) (blk13 H1.out.opn (Nat.le_refl _) rfl rfl rfl) (blk21 H1.out.mad (Nat.le_refl _) rfl rfl)) (small_of (by kernel_rfl)) (rise_one _) (ev_big (by show 256 < (Array.replicate n (0 : UInt8)).size; simp; omega)))
    have HB := Lib.hid H1.out.bel
    clear H1
    go_wp2_with (fail)
    refine HF.out.mono ?_
    rintro e w5 ⟨r, rfl, hB5, hR5⟩
    have HSA := Lib.hid (same_lit (f := ⟨6, 3, nm0⟩) hR5)
    have HB5 := Lib.hid (HB.out.trans (hB5.mono HB.out.size))
    obtain ⟨RA, rcap, rfl⟩ := hR5.form
    clear hB5 hR5 s0 s1 s2 HF HB
    go_wp2_with (fail)
    refine HSA.out.mono ?_
    rintro e w8 ⟨rfl, hB8⟩
    have HB8 := Lib.hid (HB5.out.trans (hB8.mono HB5.out.size))
    clear hB8
    go_wp2_with (fail)
    go_ret
    exact ⟨rfl, HB8.out⟩
end Go.Proofs.Ytenlffhoinialaa
