
/- law20: CheckOpens. (Printed by wip/genck.py.) -/
import Derived.Test.YtenlffhoinialaaLawCk2
namespace Go.Proofs.Ytenlffhoinialaa
open Go.RowKit
set_option maxHeartbeats 1000000
attribute [local go_sem ↓] Go.wp_at_zero Go.wp_at_succ
set_option maxRecDepth 100000 in
theorem ev_op0 : rawF (wS dS hS ⟨#[]⟩ ⟨#[116, 104, 114, 101, 101]⟩ 10 11 [(2, 2, 11)] [3, 2]) = [⟨9, 11, nm0⟩] := by rw [raw_c]; kernel_rfl
set_option maxRecDepth 100000 in
theorem ev_op1 : rawF (wS dS hS ⟨#[]⟩ ⟨#[116, 104, 114, 101, 101]⟩ 10 11 [(1, 4, 11)] [3, 2]) = [⟨9, 11, nm0⟩] := by rw [raw_c]; kernel_rfl
set_option maxRecDepth 100000 in
theorem ev_op2 : rawF (wS dS hS ⟨#[]⟩ ⟨#[116, 104, 114, 101, 101]⟩ 10 11 [(1, -1, 11)] [3, 2]) = [⟨9, 11, nm0⟩] := by rw [raw_c]; kernel_rfl
set_option maxRecDepth 100000 in
theorem ev_op3 : rawF (wS dS hS ⟨#[]⟩ ⟨#[116, 104, 114, 101, 101]⟩ 10 11 [(1, 2, 11), (1, 2, 3)] [3, 2]) = [⟨9, 3, nm0⟩] := by rw [raw_c]; kernel_rfl
theorem info_dsc : (Try.prog.info? 60).map (fun i => (i.zero, i.size, i.bytes)) = some (some (.agg #[.int .i64 0, .int .i64 0, .int .i64 0]), 3, 24) := by kernel_rfl
theorem own_opens {w : World} {base : Nat} {v : Value} {a b c d e f : Int} (h : w.ownsRow base 60 3 v 2 [.int .i64 a, .int .i64 b, .int .i64 c, .int .i64 d, .int .i64 e, .int .i64 f]) (S : St) (hS : S.opens = [(a, b, c), (d, e, f)]) : RowAt w v 2 3 (opnC S) := by
  rcases h.2 with ⟨rfl, h0⟩ | ⟨g, cap, cur, rfl, hb, hh, h1, _⟩
  · omega
  · refine ⟨_, _, rfl, h1, fun _ => ⟨g, 0, rfl, fun i j hi hj => ?_⟩⟩
    have hc := h.cells (g := g) rfl (i * 3 + j) (opnC S i j) (by
      have h2 : i = 0 ∨ i = 1 := by omega
      have h3 : j = 0 ∨ j = 1 ∨ j = 2 := by omega
      unfold opnC St.oc St.of St.on
      rw [hS]
      rcases h2 with rfl | rfl <;> rcases h3 with rfl | rfl | rfl <;> rfl)
    rw [Addr.add_lit] at hc
    exact hc
theorem opn_grown {w w0 w3 : World} {sb g go gm e1 e2 : Nat} {sv I E1 E2 O M : Array Value} (H : WF w w0 sb g go gm e1 e2 sv I E1 E2 O M) {obj : Obj} {v : Value} {k : Nat} {xs : List Value}
    (hgrow : (w0.alloc obj).grownBy w3 (some go)) (hown : w3.ownsRow w.heap.size 60 3 v k xs) :
    Below w.heap.size w (w3.setCell ⟨sb, 1, none⟩ v) ∧ Blk (w3.setCell ⟨sb, 1, none⟩ v) sb 26 (sv.setIfInBounds 1 v) ∧ Blk (w3.setCell ⟨sb, 1, none⟩ v) g 56 I ∧ Blk (w3.setCell ⟨sb, 1, none⟩ v) e1 58 E1 ∧ Blk (w3.setCell ⟨sb, 1, none⟩ v) e2 58 E2 ∧ Blk (w3.setCell ⟨sb, 1, none⟩ v) gm 3 M ∧ (w3.setCell ⟨sb, 1, none⟩ v).ownsRow w.heap.size 60 3 v k xs := by
  have hst := blk_grown hgrow (H.st.alloc obj) (fun e => H.opn.ne_ H.st (by decide) (Option.some.inj e))
  have hi := blk_grown hgrow (H.ino.alloc obj) (fun e => H.opn.ne_ H.ino (by decide) (Option.some.inj e))
  have h1 := blk_grown hgrow (H.ent1.alloc obj) (fun e => H.opn.ne_ H.ent1 (by decide) (Option.some.inj e))
  have h2 := blk_grown hgrow (H.ent2.alloc obj) (fun e => H.opn.ne_ H.ent2 (by decide) (Option.some.inj e))
  have hm := blk_grown hgrow (H.mad.alloc obj) (fun e => H.opn.ne_ H.mad (by decide) (Option.some.inj e))
  have hs := H.bel.size
  have hb : Below w.heap.size w w3 := (H.bel.alloc hs obj).trans ⟨hgrow.os, hgrow.tape, hgrow.output, by have := hgrow.size; simp at this ⊢; omega, fun k hk => hgrow.block k (by simp; omega) (fun e => by have := H.hgo; have := Option.some.inj e; omega)⟩
  exact ⟨hb.setCell (p := ⟨sb, 1, none⟩) H.hsb _, hst.set_ 1 v, hi.far (p := ⟨sb, 1, none⟩) (hi.ne_ hst (by decide)) v, h1.far (p := ⟨sb, 1, none⟩) (h1.ne_ hst (by decide)) v, h2.far (p := ⟨sb, 1, none⟩) (h2.ne_ hst (by decide)) v, hm.far (p := ⟨sb, 1, none⟩) (hm.ne_ hst (by decide)) v, own_far hown hst (by decide) 1 v⟩
set_option maxRecDepth 1000000 in
theorem copens_walk (w : World) (v : Int) (_ : (Lit.int .i64 v).wf = true) :
    Calls Try.prog 12 #[.int .i64 v] w fun e w' => e = .returned (.bool true) ∧ Below w.heap.size w w' := by
  go_enter Try.func12, Try.ntmps12
  go_wp2_with (fail)
  refine (awake_calls w).mono ?_
  rintro e w1 ⟨rfl, hB1⟩
  go_wp2_with (fail)
  refine (whole_calls w1).mono ?_
  rintro e w2 ⟨g, go, gm, e1, e2, rfl, hW⟩
  have H0 := Lib.hid (WF.start hW hB1 #[.slice (some ⟨g, 0, none⟩) 5 5, .slice (some ⟨go, 0, none⟩) 1 1, .slice (some ⟨gm, 0, none⟩) 2 2])
  clear hB1 hW
  go_upto_region 4 with (fail)
  generalize w2.alloc (Obj.cells #[.slice (some ⟨g, 0, none⟩) 5 5, .slice (some ⟨go, 0, none⟩) 1 1, .slice (some ⟨gm, 0, none⟩) 2 2] 26) = w0 at *
  generalize w2.heap.size = sb at *
  obtain ⟨i0, hi, hz0, hz1, hz2⟩ := info_parts info_dsc
  rcases bit3 v with hv | hv | hv | hv
  ·
    have s1 : w0.cell? ⟨sb, 1, none⟩ = some (.slice (some ⟨go, 0, none⟩) 1 1) := H0.out.st.cell 1
    have tt : w0.cell? ⟨go, 0, none⟩ = some (.int .i64 1) := H0.out.opn.cell 0
    have ft : w0.frozen? ⟨go, 0, none⟩ = false := H0.out.opn.frozen 0
    have H1 := Lib.hid (H0.out.setO 0 (.int .i64 2))
    go_upto_region 12 with (fail)
    clear s1 tt ft H0
    generalize w0.setCell ⟨go, 0, none⟩ (.int .i64 2) = wa1 at *
    have s0 : wa1.cell? ⟨sb, 0, none⟩ = some (.slice (some ⟨g, 0, none⟩) 5 5) := H1.out.st.cell 0
    have s1 : wa1.cell? ⟨sb, 1, none⟩ = some (.slice (some ⟨go, 0, none⟩) 1 1) := H1.out.st.cell 1
    have s2 : wa1.cell? ⟨sb, 2, none⟩ = some (.slice (some ⟨gm, 0, none⟩) 2 2) := H1.out.st.cell 2
    have HF := Lib.hid (found_out (whole_stm (a := dS) (b := hS) (d2 := ⟨#[]⟩) (d3 := ⟨#[116, 104, 114, 101, 101]⟩) (n4 := 10) (n5 := 11) (O := [(2, 2, 11)]) (M := [3, 2]) H1.out.ino (blk32 H1.out.ent1 (Nat.le_refl _) rfl rfl rfl rfl rfl rfl) (blk12 H1.out.ent2 (Nat.le_refl _) rfl rfl) (blk13 H1.out.opn (Nat.le_refl _) rfl rfl rfl) (blk21 H1.out.mad (Nat.le_refl _) rfl rfl)) (small_of (by kernel_rfl)) (rise_one _) ev_op0)
    have HB := Lib.hid H1.out.bel
    clear H1
    go_wp2_with (fail)
    refine HF.out.mono ?_
    rintro e w5 ⟨r, rfl, hB5, hR5⟩
    have HSA := Lib.hid (same_lit (f := ⟨9, 11, nm0⟩) hR5)
    have HB5 := Lib.hid (HB.out.trans (hB5.mono HB.out.size))
    obtain ⟨RA, rcap, rfl⟩ := hR5.form
    clear hB5 hR5 s0 s1 s2 HF HB
    go_wp2_with (go_at_call 32; go_in)
    refine HSA.out.mono ?_
    rintro e w8 ⟨rfl, hB8⟩
    have HB8 := Lib.hid (HB5.out.trans (hB8.mono HB5.out.size))
    clear hB8
    go_wp2_with (fail)
    go_ret
    exact ⟨rfl, HB8.out⟩
  ·
    have s1 : w0.cell? ⟨sb, 1, none⟩ = some (.slice (some ⟨go, 0, none⟩) 1 1) := H0.out.st.cell 1
    have tt : w0.cell? ⟨go, 1, none⟩ = some (.int .i64 2) := H0.out.opn.cell 1
    have ft : w0.frozen? ⟨go, 1, none⟩ = false := H0.out.opn.frozen 1
    have H1 := Lib.hid (H0.out.setO 1 (.int .i64 4))
    go_upto_region 12 with (fail)
    clear s1 tt ft H0
    generalize w0.setCell ⟨go, 1, none⟩ (.int .i64 4) = wa1 at *
    have s0 : wa1.cell? ⟨sb, 0, none⟩ = some (.slice (some ⟨g, 0, none⟩) 5 5) := H1.out.st.cell 0
    have s1 : wa1.cell? ⟨sb, 1, none⟩ = some (.slice (some ⟨go, 0, none⟩) 1 1) := H1.out.st.cell 1
    have s2 : wa1.cell? ⟨sb, 2, none⟩ = some (.slice (some ⟨gm, 0, none⟩) 2 2) := H1.out.st.cell 2
    have HF := Lib.hid (found_out (whole_stm (a := dS) (b := hS) (d2 := ⟨#[]⟩) (d3 := ⟨#[116, 104, 114, 101, 101]⟩) (n4 := 10) (n5 := 11) (O := [(1, 4, 11)]) (M := [3, 2]) H1.out.ino (blk32 H1.out.ent1 (Nat.le_refl _) rfl rfl rfl rfl rfl rfl) (blk12 H1.out.ent2 (Nat.le_refl _) rfl rfl) (blk13 H1.out.opn (Nat.le_refl _) rfl rfl rfl) (blk21 H1.out.mad (Nat.le_refl _) rfl rfl)) (small_of (by kernel_rfl)) (rise_one _) ev_op1)
    have HB := Lib.hid H1.out.bel
    clear H1
    go_wp2_with (fail)
    refine HF.out.mono ?_
    rintro e w5 ⟨r, rfl, hB5, hR5⟩
    have HSA := Lib.hid (same_lit (f := ⟨9, 11, nm0⟩) hR5)
    have HB5 := Lib.hid (HB.out.trans (hB5.mono HB.out.size))
    obtain ⟨RA, rcap, rfl⟩ := hR5.form
    clear hB5 hR5 s0 s1 s2 HF HB
    go_wp2_with (go_at_call 32; go_in)
    refine HSA.out.mono ?_
    rintro e w8 ⟨rfl, hB8⟩
    have HB8 := Lib.hid (HB5.out.trans (hB8.mono HB5.out.size))
    clear hB8
    go_wp2_with (fail)
    go_ret
    exact ⟨rfl, HB8.out⟩
  ·
    have s1 : w0.cell? ⟨sb, 1, none⟩ = some (.slice (some ⟨go, 0, none⟩) 1 1) := H0.out.st.cell 1
    have tt : w0.cell? ⟨go, 1, none⟩ = some (.int .i64 2) := H0.out.opn.cell 1
    have ft : w0.frozen? ⟨go, 1, none⟩ = false := H0.out.opn.frozen 1
    have H1 := Lib.hid (H0.out.setO 1 (.int .i64 (-1)))
    go_upto_region 12 with (fail)
    clear s1 tt ft H0
    generalize w0.setCell ⟨go, 1, none⟩ (.int .i64 (-1)) = wa1 at *
    have s0 : wa1.cell? ⟨sb, 0, none⟩ = some (.slice (some ⟨g, 0, none⟩) 5 5) := H1.out.st.cell 0
    have s1 : wa1.cell? ⟨sb, 1, none⟩ = some (.slice (some ⟨go, 0, none⟩) 1 1) := H1.out.st.cell 1
    have s2 : wa1.cell? ⟨sb, 2, none⟩ = some (.slice (some ⟨gm, 0, none⟩) 2 2) := H1.out.st.cell 2
    have HF := Lib.hid (found_out (whole_stm (a := dS) (b := hS) (d2 := ⟨#[]⟩) (d3 := ⟨#[116, 104, 114, 101, 101]⟩) (n4 := 10) (n5 := 11) (O := [(1, -1, 11)]) (M := [3, 2]) H1.out.ino (blk32 H1.out.ent1 (Nat.le_refl _) rfl rfl rfl rfl rfl rfl) (blk12 H1.out.ent2 (Nat.le_refl _) rfl rfl) (blk13 H1.out.opn (Nat.le_refl _) rfl rfl rfl) (blk21 H1.out.mad (Nat.le_refl _) rfl rfl)) (small_of (by kernel_rfl)) (rise_one _) ev_op2)
    have HB := Lib.hid H1.out.bel
    clear H1
    go_wp2_with (fail)
    refine HF.out.mono ?_
    rintro e w5 ⟨r, rfl, hB5, hR5⟩
    have HSA := Lib.hid (same_lit (f := ⟨9, 11, nm0⟩) hR5)
    have HB5 := Lib.hid (HB.out.trans (hB5.mono HB.out.size))
    obtain ⟨RA, rcap, rfl⟩ := hR5.form
    clear hB5 hR5 s0 s1 s2 HF HB
    go_wp2_with (go_at_call 32; go_in)
    refine HSA.out.mono ?_
    rintro e w8 ⟨rfl, hB8⟩
    have HB8 := Lib.hid (HB5.out.trans (hB8.mono HB5.out.size))
    clear hB8
    go_wp2_with (fail)
    go_ret
    exact ⟨rfl, HB8.out⟩
  ·
    have s1 : w0.cell? ⟨sb, 1, none⟩ = some (.slice (some ⟨go, 0, none⟩) 1 1) := H0.out.st.cell 1
    have HOWN := Lib.hid (show w0.ownsRow w.heap.size 60 3 (.slice (some ⟨go, 0, none⟩) 1 1) 1 [.int .i64 1, .int .i64 2, .int .i64 11] from ⟨rfl, .inr ⟨go, 1, _, rfl, H0.out.hgo, H0.out.opn, Nat.le_refl _, by decide, rfl, rfl⟩⟩)
    have hsb := H0.out.hsb
    have hbs := H0.out.bel.size
    go_upto_region 12 with (at_builtin; refine wpList_append_lies _ rfl (.tmp 10) (.tmp 12) 23 rfl w.heap.size 60 i0 _ 3 24 Try.underlying23 hi hz0 hz1 hz2 rfl (by decide) (.slice (some ⟨go, 0, none⟩) 1 1) _ _ rfl (HOWN.out.alloc (Obj.cells #[.int .i64 1, .int .i64 2, .int .i64 3] 60)) ⟨w0.heap.size, 0, none⟩ 1 1 [.int .i64 1, .int .i64 2, .int .i64 3] rfl rfl (World.news_of_block (heap_alloc_new _ _)) (by intro u hu; simp at hu; rcases hu with rfl | rfl | rfl <;> rfl) (by decide) (by decide) (by decide) (by simp; omega) _ rfl ?_; intro gq capq w3 hown hgrow hat hlt; have hst := blk_grown hgrow (H0.out.st.alloc (Obj.cells #[.int .i64 1, .int .i64 2, .int .i64 3] 60)) (fun e => Blk.ne_ H0.out.opn H0.out.st (by decide) (Option.some.inj e)); have ss : w3.cell? ⟨sb, 1, none⟩ = some (.slice (some ⟨go, 0, none⟩) 1 1) := hst.cell 1; have ft : w3.frozen? ⟨sb, 1, none⟩ = false := hst.frozen 1)
    obtain ⟨KB, Kst, Kino, Ke1, Ke2, Kmad, Kown⟩ := opn_grown H0.out hgrow hown
    have s0 := Kst.cell 0
    have s1 : (w3.setCell ⟨sb, 1, none⟩ (.slice (some ⟨gq, 0, none⟩) 2 capq)).cell? ⟨sb, 1, none⟩ = some (.slice (some ⟨gq, 0, none⟩) 2 capq) := Kst.cell 1
    have s2 := Kst.cell 2
    have HF := Lib.hid (found_out (whole_stm (a := dS) (b := hS) (d2 := ⟨#[]⟩) (d3 := ⟨#[116, 104, 114, 101, 101]⟩) (n4 := 10) (n5 := 11) (O := [(1, 2, 11), (1, 2, 3)]) (M := [3, 2]) Kino (blk32 Ke1 (Nat.le_refl _) rfl rfl rfl rfl rfl rfl) (blk12 Ke2 (Nat.le_refl _) rfl rfl) (own_opens Kown _ rfl) (blk21 Kmad (Nat.le_refl _) rfl rfl)) (small_of (by kernel_rfl)) (rise_one _) ev_op3)
    have HB := Lib.hid KB
    clear hgrow hown hat hst ss ft H0 HOWN hbs hlt KB Kst Kino Ke1 Ke2 Kmad Kown hsb
    generalize w3.setCell ⟨sb, 1, none⟩ (.slice (some ⟨gq, 0, none⟩) 2 capq) = wa1 at *
    go_wp2_with (fail)
    refine HF.out.mono ?_
    rintro e w5 ⟨r, rfl, hB5, hR5⟩
    have HSA := Lib.hid (same_lit (f := ⟨9, 3, nm0⟩) hR5)
    have HB5 := Lib.hid (HB.out.trans (hB5.mono HB.out.size))
    obtain ⟨RA, rcap, rfl⟩ := hR5.form
    clear hB5 hR5 s0 s1 s2 HF HB
    go_wp2_with (go_at_call 32; go_in)
    refine HSA.out.mono ?_
    rintro e w8 ⟨rfl, hB8⟩
    have HB8 := Lib.hid (HB5.out.trans (hB8.mono HB5.out.size))
    clear hB8
    go_wp2_with (fail)
    go_ret
    exact ⟨rfl, HB8.out⟩
end Go.Proofs.Ytenlffhoinialaa
