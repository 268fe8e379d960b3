
/- law20: CheckNumbers. -/
import Derived.Test.YtenlffhoinialaaLawCk
namespace Go.Proofs.Ytenlffhoinialaa
open Go.RowKit
set_option maxHeartbeats 1000000
attribute [local go_sem ↓] Go.wp_at_zero Go.wp_at_succ
def numS (x : Int) : St := wS dS hS ⟨#[]⟩ ⟨#[116, 104, 114, 101, 101]⟩ 10 11 [(1, 2, 11)] [x, 2]
set_option maxRecDepth 100000 in
theorem ev_num1 : rawF (numS 1) = [⟨8, 10, nm0⟩] := by rw [raw_c]; kernel_rfl
set_option maxRecDepth 100000 in
theorem ev_num2 : rawF (numS 2) = [] := by rw [raw_c]; kernel_rfl
/-- The state behind 'whole' with other numbers made. -/
theorem whole_num {w : World} {g go gm e1 e2 : Nat} {x : Int} (hI : Blk w g 56 (wholeI e1 e2)) (h1 : Blk w e1 58 wholeE1) (h2 : Blk w e2 58 wholeE2) (hO : Blk w go 60 #[.int .i64 1, .int .i64 2, .int .i64 11]) (hM : Blk w gm 3 #[.int .i64 x, .int .i64 2]) :
    StM w (.slice (some ⟨g, 0, none⟩) 5 5) (.slice (some ⟨go, 0, none⟩) 1 1) (.slice (some ⟨gm, 0, none⟩) 2 2) (fun i => match i with | 0 => .slice (some ⟨e1, 0, none⟩) 3 3 | 1 => .slice (some ⟨e2, 0, none⟩) 1 1 | _ => .slice none 0 0) (numS x) :=
  whole_stm (a := dS) (b := hS) (O := [(1, 2, 11)]) (M := [x, 2]) hI (blk32 h1 (Nat.le_refl _) rfl rfl rfl rfl rfl rfl) (blk12 h2 (Nat.le_refl _) rfl rfl) (blk13 hO (Nat.le_refl _) rfl rfl rfl) (blk21 hM (Nat.le_refl _) rfl rfl)
set_option maxRecDepth 1000000 in
theorem cnum_walk (w : World) (v : Int) (_ : (Lit.int .i64 v).wf = true) :
    Calls Try.prog 11 #[.int .i64 v] w fun e w' => e = .returned (.bool true) ∧ Below w.heap.size w w' := by
  go_enter Try.func11, Try.ntmps11
  go_wp2_with (fail)
  refine (awake_calls w).mono ?_
  rintro e w1 ⟨rfl, hB1⟩
  go_wp2_with (fail)
  refine (whole_calls w1).mono ?_
  rintro e w2 ⟨g, go, gm, e1, e2, rfl, hW⟩
  have HB := Lib.hid (hB1.trans (hW.bel.mono hB1.size))
  have hs := hB1.size
  have hgm := hW.hgm
  have HS := Lib.hid (Blk.new w2 26 #[.slice (some ⟨g, 0, none⟩) 5 5, .slice (some ⟨go, 0, none⟩) 1 1, .slice (some ⟨gm, 0, none⟩) 2 2])
  have HI := Lib.hid (hW.ino.alloc (Obj.cells #[.slice (some ⟨g, 0, none⟩) 5 5, .slice (some ⟨go, 0, none⟩) 1 1, .slice (some ⟨gm, 0, none⟩) 2 2] 26))
  have H1 := Lib.hid (hW.ent1.alloc (Obj.cells #[.slice (some ⟨g, 0, none⟩) 5 5, .slice (some ⟨go, 0, none⟩) 1 1, .slice (some ⟨gm, 0, none⟩) 2 2] 26))
  have H2 := Lib.hid (hW.ent2.alloc (Obj.cells #[.slice (some ⟨g, 0, none⟩) 5 5, .slice (some ⟨go, 0, none⟩) 1 1, .slice (some ⟨gm, 0, none⟩) 2 2] 26))
  have HO := Lib.hid (hW.opn.alloc (Obj.cells #[.slice (some ⟨g, 0, none⟩) 5 5, .slice (some ⟨go, 0, none⟩) 1 1, .slice (some ⟨gm, 0, none⟩) 2 2] 26))
  have HM := Lib.hid (hW.mad.alloc (Obj.cells #[.slice (some ⟨g, 0, none⟩) 5 5, .slice (some ⟨go, 0, none⟩) 1 1, .slice (some ⟨gm, 0, none⟩) 2 2] 26))
  have HBW := Lib.hid (HB.out.alloc HB.out.size (Obj.cells #[.slice (some ⟨g, 0, none⟩) 5 5, .slice (some ⟨go, 0, none⟩) 1 1, .slice (some ⟨gm, 0, none⟩) 2 2] 26))
  clear hB1 hW HB
  go_upto_region 4 with (fail)
  generalize w2.alloc (Obj.cells #[.slice (some ⟨g, 0, none⟩) 5 5, .slice (some ⟨go, 0, none⟩) 1 1, .slice (some ⟨gm, 0, none⟩) 2 2] 26) = wa at *
  generalize w2.heap.size = sb at *
  have s2 : wa.cell? ⟨sb, 2, none⟩ = some (.slice (some ⟨gm, 0, none⟩) 2 2) := HS.out.cell 2
  have m0 : wa.cell? ⟨gm, 0, none⟩ = some (.int .i64 3) := HM.out.cell 0
  have f0 : wa.frozen? ⟨gm, 0, none⟩ = false := HM.out.frozen 0
  rcases bit1 v with hv | hv
  · have HI' := Lib.hid (HI.out.far (p := ⟨gm, 0, none⟩) (HI.out.ne_ HM.out (by decide)) (.int .i64 1))
    have H1' := Lib.hid (H1.out.far (p := ⟨gm, 0, none⟩) (H1.out.ne_ HM.out (by decide)) (.int .i64 1))
    have H2' := Lib.hid (H2.out.far (p := ⟨gm, 0, none⟩) (H2.out.ne_ HM.out (by decide)) (.int .i64 1))
    have HO' := Lib.hid (HO.out.far (p := ⟨gm, 0, none⟩) (HO.out.ne_ HM.out (by decide)) (.int .i64 1))
    have HS' := Lib.hid (HS.out.far (p := ⟨gm, 0, none⟩) (HS.out.ne_ HM.out (by decide)) (.int .i64 1))
    have HM' := Lib.hid (show Blk (wa.setCell ⟨gm, 0, none⟩ (.int .i64 1)) gm 3 #[.int .i64 1, .int .i64 2] from HM.out.set_ 0 (.int .i64 1))
    have HB' := Lib.hid (HBW.out.setCell (p := ⟨gm, 0, none⟩) (by show w.heap.size ≤ gm; omega) (.int .i64 1))
    go_upto_region 5 with (fail)
    clear s2 m0 f0 HI H1 H2 HO HS HM HBW
    generalize wa.setCell ⟨gm, 0, none⟩ (.int .i64 1) = wb at *
    have s0 : wb.cell? ⟨sb, 0, none⟩ = some (.slice (some ⟨g, 0, none⟩) 5 5) := HS'.out.cell 0
    have s1 : wb.cell? ⟨sb, 1, none⟩ = some (.slice (some ⟨go, 0, none⟩) 1 1) := HS'.out.cell 1
    have s2 : wb.cell? ⟨sb, 2, none⟩ = some (.slice (some ⟨gm, 0, none⟩) 2 2) := HS'.out.cell 2
    have HF := Lib.hid (found_out (whole_num HI'.out H1'.out H2'.out HO'.out HM'.out) (small_of (by kernel_rfl)) (rise_one _) ev_num1)
    clear HI' H1' H2' HO' HS' HM'
    go_wp2_with (fail)
    refine HF.out.mono ?_
    rintro e w5 ⟨r, rfl, hB5, hR5⟩
    have HB5 := Lib.hid (HB'.out.trans (hB5.mono HB'.out.size))
    have HR5 := Lib.hid (hR5.keep ((Below.refl _ w5).alloc (Nat.le_refl _) (.cells #[.int .i64 8, .int .i64 10, .string ⟨#[]⟩] 64)))
    have HL5 := Lib.hid (lit1 (f := ⟨8, 10, nm0⟩) (Blk.new w5 64 #[.int .i64 8, .int .i64 10, .string ⟨#[]⟩]))
    obtain ⟨RA, rcap, rfl⟩ := HR5.out.form
    clear hB5 hR5 s0 s1 s2 HF
    go_wp2_with (go_at_call 31; go_in)
    refine (same_fnd HR5.out HL5.out (by decide)).mono ?_
    rintro e w8 ⟨rfl, d, rfl⟩
    go_wp2_with (fail)
    go_ret
    have := HB5.out.alloc HB5.out.size (.cells #[.int .i64 8, .int .i64 10, .string ⟨#[]⟩] 64)
    exact ⟨rfl, this.os, this.tape, this.output, this.size, this.block⟩
  · have HI' := Lib.hid (HI.out.far (p := ⟨gm, 0, none⟩) (HI.out.ne_ HM.out (by decide)) (.int .i64 2))
    have H1' := Lib.hid (H1.out.far (p := ⟨gm, 0, none⟩) (H1.out.ne_ HM.out (by decide)) (.int .i64 2))
    have H2' := Lib.hid (H2.out.far (p := ⟨gm, 0, none⟩) (H2.out.ne_ HM.out (by decide)) (.int .i64 2))
    have HO' := Lib.hid (HO.out.far (p := ⟨gm, 0, none⟩) (HO.out.ne_ HM.out (by decide)) (.int .i64 2))
    have HS' := Lib.hid (HS.out.far (p := ⟨gm, 0, none⟩) (HS.out.ne_ HM.out (by decide)) (.int .i64 2))
    have HM' := Lib.hid (show Blk (wa.setCell ⟨gm, 0, none⟩ (.int .i64 2)) gm 3 #[.int .i64 2, .int .i64 2] from HM.out.set_ 0 (.int .i64 2))
    have HB' := Lib.hid (HBW.out.setCell (p := ⟨gm, 0, none⟩) (by show w.heap.size ≤ gm; omega) (.int .i64 2))
    go_upto_region 5 with (fail)
    clear s2 m0 f0 HI H1 H2 HO HS HM HBW
    generalize wa.setCell ⟨gm, 0, none⟩ (.int .i64 2) = wb at *
    have s0 : wb.cell? ⟨sb, 0, none⟩ = some (.slice (some ⟨g, 0, none⟩) 5 5) := HS'.out.cell 0
    have s1 : wb.cell? ⟨sb, 1, none⟩ = some (.slice (some ⟨go, 0, none⟩) 1 1) := HS'.out.cell 1
    have s2 : wb.cell? ⟨sb, 2, none⟩ = some (.slice (some ⟨gm, 0, none⟩) 2 2) := HS'.out.cell 2
    have HF := Lib.hid (found_out (whole_num HI'.out H1'.out H2'.out HO'.out HM'.out) (small_of (by kernel_rfl)) rise_nil ev_num2)
    clear HI' H1' H2' HO' HS' HM'
    go_wp2_with (fail)
    refine HF.out.mono ?_
    rintro e w5 ⟨r, rfl, hB5, hR5⟩
    have HB5 := Lib.hid (HB'.out.trans (hB5.mono HB'.out.size))
    have HR5 := Lib.hid hR5
    obtain ⟨RA, rcap, rfl⟩ := HR5.out.form
    clear hB5 hR5 s0 s1 s2 HF
    go_wp2_with (go_at_call 31; go_in)
    refine (same_fnd HR5.out (lit0 _) (by decide)).mono ?_
    rintro e w8 ⟨rfl, d, rfl⟩
    go_wp2_with (fail)
    go_ret
    exact ⟨rfl, HB5.out.os, HB5.out.tape, HB5.out.output, HB5.out.size, HB5.out.block⟩
end Go.Proofs.Ytenlffhoinialaa
