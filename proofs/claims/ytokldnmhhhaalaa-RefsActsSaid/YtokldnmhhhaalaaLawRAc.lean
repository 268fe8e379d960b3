
/- RefsActs: the model is made. -/
import Derived.Test.YtokldnmhhhaalaaMdlS
import Derived.Test.YtokldnmhhhaalaaLawREp
import Derived.Deep.DeepCutAuto
namespace Go.Proofs.Ytokldnmhhhaalaa
open Go.RowKit
set_option maxHeartbeats 16000000

theorem info_ints : (Try.prog.info? 22).map (fun i => (i.zero, i.size, i.bytes)) = some (some (.slice none 0 0), 1, 24) := by kernel_rfl
theorem make_rows (n : Nat) (hn : n ≤ 1000) (W : World) : (Instr.makeSlice 41 (.int .i64 (n : Int)) (.int .i64 (n : Int))).run Try.prog W = .ok (.slice (some ⟨W.heap.size, 0, none⟩) n n) (W.alloc (.cells (nilsObj n) 22)) := by
  obtain ⟨i0, hi, hz0, hz1, hz2⟩ := info_parts info_ints
  have h := run_make_rowN (P := Try.prog) 41 22 i0 _ Try.underlying41 hi hz0 .i64 .i64 n n (Nat.le_refl _) (by rw [hz2]; omega) (by omega) W
  simp only [hz1, Nat.mul_one, Value.cells, madeCells_one] at h
  exact h
theorem make_intsR (n : Nat) (hn : n ≤ 1000) (W : World) : (Instr.makeSlice 22 (.int .i64 (n : Int)) (.int .i64 (n : Int))).run Try.prog W = .ok (.slice (some ⟨W.heap.size, 0, none⟩) n n) (W.alloc (.cells (zerosI n) 3)) := by
  obtain ⟨i0, hi, hz0, hz1, hz2⟩ := info_parts info_int
  have h := run_make_rowN (P := Try.prog) 22 3 i0 _ Try.underlying22 hi hz0 .i64 .i64 n n (Nat.le_refl _) (by rw [hz2]; omega) (by omega) W
  simp only [hz1, Nat.mul_one, Value.cells, madeCells_one] at h
  exact h
theorem make_boolsR (n : Nat) (hn : n ≤ 1000) (W : World) : (Instr.makeSlice 42 (.int .i64 (n : Int)) (.int .i64 (n : Int))).run Try.prog W = .ok (.slice (some ⟨W.heap.size, 0, none⟩) n n) (W.alloc (.cells (zerosB n) 4)) := by
  obtain ⟨i0, hi, hz0, hz1, hz2⟩ := info_parts info_bool
  have h := run_make_rowN (P := Try.prog) 42 4 i0 _ Try.underlying42 hi hz0 .i64 .i64 n n (Nat.le_refl _) (by rw [hz2]; omega) (by omega) W
  simp only [hz1, Nat.mul_one, Value.cells, madeCells_one] at h
  exact h

theorem RA.ex {L : Nat → Prop} {w0 w : World} {x a n o : Nat} {B : Mb} {i : Int} {T : Int → Int → Int} {M : Md} (h : RA L w0 w x a n o B i T M) : ∃ M', RA L w0 w x a n o B i T M' := ⟨M, h⟩
/-- The makes of the model. -/
def mks (n o : Nat) : List Mk := [⟨1, 56, n, 22, nilsObj n⟩, ⟨3, 58, o, 3, zerosI o⟩, ⟨5, 60, n, 4, zerosB n⟩, ⟨7, 62, o, 4, zerosB o⟩, ⟨9, 64, o, 4, zerosB o⟩, ⟨11, 66, o, 4, zerosB o⟩, ⟨13, 68, o, 4, zerosB o⟩]
def mkLst (D : List Bool) : Array Bool := #[true, D.getD 0 false, true, D.getD 1 false, true, D.getD 2 false, true, D.getD 3 false, true, D.getD 4 false, true, D.getD 5 false, true, D.getD 6 false, false, false, false]

set_option maxRecDepth 100000 in
theorem racts_walk (w : World) (cores : Int) (_ : (Lit.int .i64 cores).wf = true) (objects : Int) (_ : (Lit.int .i64 objects).wf = true) {A : Option Addr} {len cap : Nat} {F : Nat → Nat → Int} (hx : Acts w A len cap 3 F) :
    Calls Try.prog 4 #[.int .i64 cores, .int .i64 objects, .slice A len cap] w fun e w' => e = .returned (.bool true) ∧ Below w.heap.size w w' := by
  have hle := hx.len_le
  have HX := Lib.hid hx
  clear hx
  obtain ⟨n, hn, hn1, hn4⟩ : ∃ n : Nat, 1 + cores % 4 = n ∧ 1 ≤ n ∧ n ≤ 4 := ⟨(1 + cores % 4).toNat, by omega, by omega, by omega⟩
  obtain ⟨o, ho, ho1, ho8⟩ : ∃ n : Nat, 1 + objects % 8 = n ∧ 1 ≤ n ∧ n ≤ 8 := ⟨(1 + objects % 8).toNat, by omega, by omega, by omega⟩
  obtain ⟨V, hV2, hV⟩ : ∃ V : Nat, V = (o + 2) * (n + 2) ∧ ((o : Int) + 2) * ((n : Int) + 2) = V := ⟨(o + 2) * (n + 2), rfl, by simp⟩
  have hVb : 1 ≤ V ∧ V ≤ 60 := by
    have h1 : (o + 2) * (n + 2) ≤ 10 * 6 := Nat.mul_le_mul (by omega) (by omega)
    have h2 : 1 * 1 ≤ (o + 2) * (n + 2) := Nat.mul_le_mul (by omega) (by omega)
    omega
  have HV := Lib.hid hV
  have e1 : IntKind.i64.wrap (((o : Int) + 2) * ((n : Int) + 2)) = V := by rw [hV]; exact IntWalk.i64_in _ (by omega)
  clear hV2
  go_enter Try.func4, Try.ntmps4
  go_wp2_with (fail)
  refine (new_to (ws := List.replicate V 0) (ts := List.replicate n []) (Bd.below w) (by omega) (by omega) (by simp) (by rw [Int.toNat_natCast])).mono ?_
  rintro e w2 ⟨a, rfl, hA, hK⟩
  have hP1 : ArP (fun b => b < w.heap.size) w2 a (List.replicate V 0) n 0 (fun _ => True) := ArP.new n trivial hA
  clear hn ho hV e1
  go_wp2_with (fail)
  refine (rsNew hP1 0 o (by omega) (by omega) (by omega) (by rw [HV.out]; omega)).mono ?_
  rintro e w3 ⟨x, rfl, hS3, hK3⟩
  have HS3 := Lib.hid hS3
  have HK3 := Lib.hid ((hK.trans hK3).below fun _ h => h)
  clear hA hK hP1 hS3 hK3
  go_upto_region 6 with (go_at_call 19; refine (num_calls _ _).mono ?_; rintro e w' ⟨rfl, rfl⟩)
  refine wp_region_any (by kernel_rfl) ?_
  change wpAny _ _ _ _ _ _ _ (World.drew _)
  refine wpAny_take (i := 0) (v := .int .i64 n) rfl (by kernel_rfl) (by kernel_rfl) (by kernel_rfl) (fun _ _ _ h => h) (Or.inl ⟨by rfl, fun w => by go_simp⟩) ?_
  refine wpAny_take (i := 2) (v := .int .i64 o) rfl (by kernel_rfl) (by kernel_rfl) (by kernel_rfl) (fun _ _ _ h => h) (Or.inl ⟨by rfl, fun w => by go_simp⟩) ?_
  refine wpAny_take (i := 4) (v := .int .i64 n) rfl (by kernel_rfl) (by kernel_rfl) (by kernel_rfl) (fun _ _ _ h => h) (Or.inl ⟨by rfl, fun w => by go_simp⟩) ?_
  refine wpAny_take (i := 6) (v := .int .i64 o) rfl (by kernel_rfl) (by kernel_rfl) (by kernel_rfl) (fun _ _ _ h => h) (Or.inl ⟨by rfl, fun w => by go_simp⟩) ?_
  refine wpAny_take (i := 8) (v := .int .i64 o) rfl (by kernel_rfl) (by kernel_rfl) (by kernel_rfl) (fun _ _ _ h => h) (Or.inl ⟨by rfl, fun w => by go_simp⟩) ?_
  refine wpAny_take (i := 10) (v := .int .i64 o) rfl (by kernel_rfl) (by kernel_rfl) (by kernel_rfl) (fun _ _ _ h => h) (Or.inl ⟨by rfl, fun w => by go_simp⟩) ?_
  refine wpAny_take (i := 12) (v := .int .i64 o) rfl (by kernel_rfl) (by kernel_rfl) (by kernel_rfl) (fun _ _ _ h => h) (Or.inl ⟨by rfl, fun w => by go_simp⟩) ?_
  refine (show wpAny _ _ _ _ (3 + 7) (mkLst (List.replicate 7 false)) _ _ from ?_)
  refine wpAny_makes (mks n o) mkLst _ _ ?c1 (nd_of (show [56, 58, 60, 62, 64, 66, 68].Nodup by decide)) ?c3 (by kernel_rfl) 3 ?c5 7 (List.replicate 7 false) (fun _ => 0) _ _ rfl rfl (MkJ.start _ _ _ _)
  case c1 =>
    intro m hm
    simp only [mks, List.mem_cons, List.not_mem_nil, or_false] at hm
    rcases hm with rfl | rfl | rfl | rfl | rfl | rfl | rfl <;> exact of_decide_eq_true (by kernel_rfl)
  case c3 =>
    intro m hm
    simp only [mks, List.mem_cons, List.not_mem_nil, or_false] at hm
    have nin : ∀ t : Nat, t < 56 ∨ t % 2 = 1 → ∀ m ∈ mks n o, m.d ≠ t := by
      intro t ht m hm
      simp only [mks, List.mem_cons, List.not_mem_nil, or_false] at hm
      rcases hm with rfl | rfl | rfl | rfl | rfl | rfl | rfl <;> simp only <;> omega
    rcases hm with rfl | rfl | rfl | rfl | rfl | rfl | rfl
    · exact ⟨_, rfl, rfl, fun a h => ⟨rfl, fun w => mk_run (s := 55) rfl (eval_get (h 55 (nin _ (by omega))) (by kernel_rfl)) (make_rows n (by omega)) w⟩⟩
    · exact ⟨_, rfl, rfl, fun a h => ⟨rfl, fun w => mk_run (s := 57) rfl (eval_get (h 57 (nin _ (by omega))) (by kernel_rfl)) (make_intsR o (by omega)) w⟩⟩
    · exact ⟨_, rfl, rfl, fun a h => ⟨rfl, fun w => mk_run (s := 59) rfl (eval_get (h 59 (nin _ (by omega))) (by kernel_rfl)) (make_boolsR n (by omega)) w⟩⟩
    · exact ⟨_, rfl, rfl, fun a h => ⟨rfl, fun w => mk_run (s := 61) rfl (eval_get (h 61 (nin _ (by omega))) (by kernel_rfl)) (make_boolsR o (by omega)) w⟩⟩
    · exact ⟨_, rfl, rfl, fun a h => ⟨rfl, fun w => mk_run (s := 63) rfl (eval_get (h 63 (nin _ (by omega))) (by kernel_rfl)) (make_boolsR o (by omega)) w⟩⟩
    · exact ⟨_, rfl, rfl, fun a h => ⟨rfl, fun w => mk_run (s := 65) rfl (eval_get (h 65 (nin _ (by omega))) (by kernel_rfl)) (make_boolsR o (by omega)) w⟩⟩
    · exact ⟨_, rfl, rfl, fun a h => ⟨rfl, fun w => mk_run (s := 67) rfl (eval_get (h 67 (nin _ (by omega))) (by kernel_rfl)) (make_boolsR o (by omega)) w⟩⟩
  case c5 =>
    intro g a5 w5 hJ
    have ha := hJ.act (l := [(56, .slice (some ⟨g 0, 0, none⟩) n n), (58, .slice (some ⟨g 1, 0, none⟩) o o), (60, .slice (some ⟨g 2, 0, none⟩) n n), (62, .slice (some ⟨g 3, 0, none⟩) o o), (64, .slice (some ⟨g 4, 0, none⟩) o o), (66, .slice (some ⟨g 5, 0, none⟩) o o), (68, .slice (some ⟨g 6, 0, none⟩) o o)]) (by
      intro m hm
      simp only [mks, List.mem_cons, List.not_mem_nil, or_false] at hm
      rcases hm with rfl | rfl | rfl | rfl | rfl | rfl | rfl <;> exact of_decide_eq_true (by kernel_rfl)) (show [56, 58, 60, 62, 64, 66, 68].Nodup by decide) rfl
    have HG := Lib.hid (show Hd5 w3 w5 g n o from by
      have hB5 := hJ.below
      have key : ∀ i, i < 7 → (List.replicate (mks n o).length true)[i]? = some true := fun i hi => by
        rw [List.getElem?_replicate, if_pos (show i < (mks n o).length from hi)]
      refine ⟨⟨hB5.os, hB5.tape, hB5.output, hB5.size, hB5.block⟩, (hJ.got 0 _ rfl rfl).2, (hJ.got 1 _ rfl rfl).2, (hJ.got 2 _ rfl rfl).2, fun i h1 h2 => ?_, fun i j hi hj h => hJ.apart i j (key i hi) (key j hj) h⟩
      have : i = 3 ∨ i = 4 ∨ i = 5 ∨ i = 6 := by omega
      rcases this with rfl | rfl | rfl | rfl
      · exact (hJ.got 3 _ rfl rfl).2
      · exact (hJ.got 4 _ rfl rfl).2
      · exact (hJ.got 5 _ rfl rfl).2
      · exact (hJ.got 6 _ rfl rfl).2)
    clear hJ
    rw [ha]
    clear ha
    simp only [putAll]
    refine wpAny_take (i := 14) (v := .agg #[.slice (some ⟨g 0, 0, none⟩) n n, .slice (some ⟨g 1, 0, none⟩) o o, .slice (some ⟨g 2, 0, none⟩) n n, .slice (some ⟨g 3, 0, none⟩) o o, .slice (some ⟨g 4, 0, none⟩) o o, .slice (some ⟨g 5, 0, none⟩) o o, .slice (some ⟨g 6, 0, none⟩) o o, .int .i64 0]) rfl (by kernel_rfl) (by kernel_rfl) (by kernel_rfl) (fun _ _ _ h => h) (Or.inl ⟨by kernel_rfl, fun w => by kernel_rfl⟩) ?_
    refine wpAny_ready (rs := [15]) (by kernel_rfl) (by simp) ?_
    refine AllReady.cons rfl (fun K hK => ?_) AllReady.nil
    go_simp
    refine hK _ _ ?_
    clear hK K
    refine wpAny_take (i := 16) (v := .pointer (some ⟨w5.heap.size, 0, none⟩)) rfl (by kernel_rfl) (by kernel_rfl) (by kernel_rfl) (fun _ _ _ h => h) (Or.inl ⟨by rfl, fun w => by go_simp⟩) ?_
    refine wpAny_done (by kernel_rfl) ?_ _
    go_wp2_with (fail)
    have HP := Lib.hid (P1.start HG.out)
    go_loopw [14] (fun i wr => ∃ (k : Nat) (rb : Nat → Nat), i = .int .i64 k ∧ k ≤ n ∧ P1 w5 wr g n o k rb) (fun i _ => n - (intOf i).toNat)
    case atStart => exact ⟨0, _, rfl, by omega, HP.out⟩
    case round =>
      clear HP
      obtain ⟨k, rb, rfl, hk, hP⟩ := hrel
      have HP := Lib.hid hP
      by_cases hkn : k < n
      · have hk0 : (0 : Int) ≤ (k : Int) := by omega
        have hk1 : (k : Int) < (n : Int) := by omega
        have q0 : wr.cell? ⟨w5.heap.size, 0, none⟩ = some (.slice (some ⟨g 0, 0, none⟩) n n) := hP.hd.cell 0
        have q1 : wr.cell? ⟨g 0, k, none⟩ = some (.slice none 0 0) := by rw [hP.pa.cell]; simp [partVals, hkn]
        have q2 := hP.pa.frozen k
        have hl0 := hP.hd.lt
        have hl1 := hP.pa.lt
        have HR := Lib.hid (hP.row HG.out.p0.2.1 hkn)
        have hmk := make_intsR o (by omega)
        clear hP
        go_wp2_with (fail)
        go_region
        all_goals (
          clear hmk q0 q1 q2
          go_wp2_with (fail)
          go_roundw
          case rel => exact ⟨k + 1, _, by go_num, by omega, by have h := HR.out.drewN 1; rw [World.setCell_alloc_past _ _ _ _ hl1] at h; exact h⟩
          case measure => simp [intOf]; omega)
      · obtain rfl : k = n := by omega
        have hk1 : ¬ (k : Int) < (k : Int) := by omega
        obtain ⟨B, L, hBb, hRA⟩ : ∃ (B : Mb) (L : Nat → Prop), B.b = w5.heap.size ∧ RA L w wr x a k o B 0 (fun _ _ => 0) md0 := by
          obtain ⟨L, h⟩ := ra_start HK3.out HS3.out HG.out hP
          exact ⟨_, L, rfl, h⟩
        have HRA := Lib.hid hRA
        clear hP hRA HP HG HS3 HK3
        generalize w5.heap.size = bm at *
        subst hBb
        go_wp2_with (fail)
        go_loopw [15] (fun i wr => ∃ (j : Nat) (L : Nat → Prop) (T : Int → Int → Int) (M : Md), i = .int .i64 j ∧ j ≤ len ∧ j ≤ 200 ∧ RA L w wr x a k o B j T M) (fun i _ => len - (intOf i).toNat)
        case atStart => exact ⟨0, L, _, _, rfl, by omega, by omega, HRA.out⟩
        case round =>
          clear HRA
          obtain ⟨j, L, T, M, rfl, hj, hj2, hRA⟩ := hrel
          have HRA := Lib.hid hRA
          by_cases hboth : j < len ∧ j < 200
          · obtain ⟨hlt, hlt2⟩ := hboth
            have hlt3 : (j : Int) < 200 := by omega
            obtain ⟨gp, off, rfl, hc⟩ := HX.out.at_ hlt hRA.keeps
            obtain ⟨q0, r0, r0'⟩ := hc 0 (by omega)
            obtain ⟨q1, r1, r1'⟩ := hc 1 (by omega)
            obtain ⟨q2, r2, r2'⟩ := hc 2 (by omega)
            rw [Nat.add_zero] at q0
            rw [← Nat.add_assoc] at q1 q2
            generalize F j 0 = kd at *
            generalize F j 1 = co at *
            generalize F j 2 = ob at *
            have HRA1 := Lib.hid (hRA.belowLo (v := .slice (some ⟨wr.heap.size, 0, none⟩) 0 0) ((Below.refl _ _).alloc (Nat.le_refl _) (.cells #[.int .i64 kd, .int .i64 co, .int .i64 ob] 46)) (fun g hg => by
              have : wr.heap.size = g := by simpa [Value.ownBlock] using hg
              subst this
              exact ⟨Nat.le_refl _, by simp⟩))
            have HLX := Lib.hid (show lo L (.slice (some ⟨wr.heap.size, 0, none⟩) 0 0) wr.heap.size from .inr rfl)
            have HX1 := Lib.hid (Blk.new wr 46 #[.int .i64 kd, .int .i64 co, .int .i64 ob])
            have HMN := Lib.hid (show ∀ b, mbS B k b → wr.heap.size ≠ b from fun b hb => by have := hRA.mlt hb; omega)
            generalize lo L (.slice (some ⟨wr.heap.size, 0, none⟩) 0 0) = L1 at *
            clear hc hRA HRA
            have hcc : (co < 0 ∨ (k : Int) ≤ co) ∨ (0 ≤ co ∧ co < k) := by omega
            rcases hcc with hcc | ⟨hc0, hc1⟩
            · as_aux_lemma =>
                have hHC := raCore HRA1.out co hcc
                have HC1 := Lib.hid (hHC.1 ob)
                have HC2 := Lib.hid (hHC.2.1 ob)
                have HC3 := Lib.hid hHC.2.2
                have HRA2 := Lib.hid (HRA1.out.mono (i' := ((j + 1 : Nat) : Int)) (by omega) (by omega))
                clear hHC
                have hk3 : kd < 3 ∨ (3 ≤ kd ∧ kd < 5) ∨ (5 ≤ kd) := by omega
                have hcc2 : co < 0 ∨ (0 ≤ co ∧ (k : Int) ≤ co) := by omega
                clear hcc
                rcases hk3 with h3 | ⟨h3, h5⟩ | h5
                all_goals rcases hcc2 with hcc | ⟨hc0, hcc⟩
                all_goals (
                  go_wp2_with (first
                    | (go_at_call 15; refine HC1.out.mono ?_; rintro e w' ⟨rfl, rfl⟩)
                    | (go_at_call 14; refine HC2.out.mono ?_; rintro e w' ⟨rfl, rfl⟩)
                    | (go_at_call 16; refine HC3.out.mono ?_; rintro e w' ⟨rfl, rfl⟩)
                    | (go_at_call 19; refine (num_calls _ _).mono ?_; rintro e w' ⟨rfl, rfl⟩))
                  go_roundw
                  case rel => exact ⟨j + 1, L1, T, M, by go_num, by omega, by omega, HRA2.out⟩
                  case measure => simp [intOf]; omega)
            · obtain ⟨c, rfl⟩ := Int.eq_ofNat_of_zero_le hc0
              have hcn : c < k := by omega
              have hc2 : ¬ (c : Int) < 0 := by omega
              have hc3 : ¬ (k : Int) ≤ (c : Int) := by omega
              have hk3 : kd < 3 ∨ (3 ≤ kd ∧ kd < 5) ∨ (5 ≤ kd) := by omega
              rcases hk3 with h3 | ⟨h3, h5⟩ | h5
              · as_aux_lemma =>
                  have h5 : kd < 5 := by omega
                  by_cases hob : 0 ≤ ob ∧ ob < o
                  · as_aux_lemma =>
                      obtain ⟨ho0, ho1⟩ := hob
                      obtain ⟨ob', rfl⟩ := Int.eq_ofNat_of_zero_le ho0
                      have hon : ob' < o := by omega
                      have ho2 : ¬ (ob' : Int) < 0 := by omega
                      have ho3 : ¬ (o : Int) ≤ (ob' : Int) := by omega
                      have HI := Lib.hid (raInc HRA1.out (by omega) hcn hon)
                      have hp := HRA1
                      go_wp2_with (fail)
                      refine HI.out.mono ?_
                      rintro e w4 ⟨rfl, hM4, hK4, hb4, T4, hf4⟩
                      have HF4 := Lib.hid hf4
                      have HX4 := Lib.hid (hK4.blk HX1.out HLX.out)
                      have x0 := HX4.out.cell 0
                      have x1 := HX4.out.cell 1
                      have x2 := HX4.out.cell 2
                      have h0 := hM4.h0
                      have hp := hM4.at_.cp hcn
                      have hr := hM4.at_.cr hcn hon
                      have HM4 := Lib.hid hM4
                      clear hf4 hM4 hK4 HI HRA1 HX1
                      generalize hpp : M.parts c ob' = p at *
                      have HPP := Lib.hid hpp
                      clear hpp
                      have e1 : IntKind.i64.wrap (p + 1) = p + 1 := IntWalk.i64_in _ (by omega)
                      go_upto_region 34 with (go_at_call 19; refine (num_calls _ _).mono ?_; rintro e w' ⟨rfl, rfl⟩)
                      go_still_tail 14, (by kernel_rfl)
                      change wpList _ _ _ _ _ (w4.drewN 1)
                      have HM5 := Lib.hid (HM4.out.drewN 1)
                      have HX5 := Lib.hid (show Blk (w4.drewN 1) _ _ _ from HX4.out)
                      clear h0 hp hr x0 x1 x2 HX4 HM4
                      generalize w4.drewN 1 = w5 at *
                      have hr := HM5.out.at_.cr hcn hon
                      rw [HPP.out] at hr
                      have fr := HM5.out.at_.fr hcn ob'
                      have HM6 := Lib.hid (HM5.out.setPart hcn ob' (p + 1))
                      have HX6 := Lib.hid (HX5.out.far (p := ⟨B.rb c, ob', none⟩) (HMN.out _ (.inr (.inr (.inr (.inr (.inr (.inr (.inr (.inr ⟨c, hcn, rfl⟩))))))))) (.int .i64 (p + 1)))
                      go_upto_region 35 with (fail)
                      generalize w5.setCell ⟨B.rb c, ob', none⟩ (.int .i64 (p + 1)) = w6 at *
                      clear hr fr e1 HX5
                      have h5 := HM6.out.h5
                      have ce := HM6.out.at_.cbe hon
                      have fe := HM6.out.at_.fbe ob'
                      have x2 := HX6.out.cell 2
                      go_still_tail 7, (by kernel_rfl)
                      change wpList _ _ _ _ _ (w6.drewN 1)
                      have HM7 := Lib.hid (HM6.out.drewN 1)
                      clear h5 ce fe x2 HX6 HM6
                      generalize w6.drewN 1 = w7 at *
                      have ce := HM7.out.at_.cbe hon
                      have fe := HM7.out.at_.fbe ob'
                      have HM8 := Lib.hid (HM7.out.setEver ob' true)
                      obtain ⟨M8, hR8⟩ := RA.ex (HF4.out _ HM8.out)
                      have HR8 := Lib.hid hR8
                      clear HM7 HM8 HF4 HM5 hR8
                      go_upto_region 39 with (fail)
                      clear ce fe
                      generalize w7.setCell ⟨B.be, ob', none⟩ (.bool true) = w8 at *
                      have q7 := HR8.out.h7
                      have HE := Lib.hid (fun d : Nat => raEpoch (HR8.out.drewN d))
                      have HA0 := Lib.hid (fun d : Nat => HR8.out.drewN d)
                      have HL8 := Lib.hid (deads_lenR HR8.out)
                      go_upto_region 39 with (fail)
                      go_region_held3 (fun w' => w'.cell? ⟨B.b, 7, none⟩ = some (.int .i64 M8.ep)) (first | exact q7 | exact hA5.h7 | exact hA4.h7)
                        ((first
                          | (go_at_call 20; refine (HE.out _).mono ?_; rintro e w' ⟨rfl, dE, rfl⟩)
                          | (go_at_call 23; refine (raDead (by first | exact hA5 | exact HA0.out _)).mono ?_; rintro e w4 ⟨v4, rfl, ho4, hA4, hK4⟩)
                          | (go_at_call 24; refine (raList (by first | exact hA4 | exact HA0.out _)).mono ?_; rintro e w5 ⟨v5, rfl, ho5, hA5, hB5⟩)
                          | (go_at_call 22; refine (same_intsL (mdeads M8 o) v4 v5 _ (by first | exact Sl.ofOwn ho4 | exact Sl.ofOwn (own_belowR ho4 hB5)) (by first | exact Sl.ofOwn ho5 | exact Sl.ofOwn (own_keep ho5 hK4)) HL8.out).mono ?_; rintro e w' ⟨rfl, d6, rfl⟩)))
                      all_goals (
                        go_wp2_with (fail)
                        go_roundw
                        case rel => first | exact ⟨j + 1, _, _, _, by go_num, by omega, by omega, (hA5.mono (i' := ((j + 1 : Nat) : Int)) (by omega) (by omega)).drewN _⟩ | exact ⟨j + 1, _, _, _, by go_num, by omega, by omega, (hA4.mono (i' := ((j + 1 : Nat) : Int)) (by omega) (by omega)).drewN _⟩
                        case measure => simp [intOf]; omega)
                  · as_aux_lemma =>
                      have HO := raObj HRA1.out (c : Int) ob ⟨by omega, by omega⟩ (by omega)
                      have HC1 := Lib.hid HO.1
                      have HRA2 := Lib.hid (HRA1.out.mono (i' := ((j + 1 : Nat) : Int)) (by omega) (by omega))
                      have hob2 : ob < 0 ∨ (0 ≤ ob ∧ (o : Int) ≤ ob) := by omega
                      clear HO hob HRA1
                      rcases hob2 with hob2 | ⟨hob2, hob3⟩
                      all_goals (
                        go_wp2_with (first
                          | (go_at_call 15; refine HC1.out.mono ?_; rintro e w' ⟨rfl, rfl⟩)
                          | (go_at_call 19; refine (num_calls _ _).mono ?_; rintro e w' ⟨rfl, rfl⟩))
                        go_roundw
                        case rel => exact ⟨j + 1, L1, T, M, by go_num, by omega, by omega, HRA2.out⟩
                        case measure => simp [intOf]; omega)
              · as_aux_lemma =>
                  have h3n : ¬ kd < 3 := by omega
                  by_cases hob : 0 ≤ ob ∧ ob < o
                  · as_aux_lemma =>
                      obtain ⟨ho0, ho1⟩ := hob
                      obtain ⟨ob', rfl⟩ := Int.eq_ofNat_of_zero_le ho0
                      have hon : ob' < o := by omega
                      have ho2 : ¬ (ob' : Int) < 0 := by omega
                      have ho3 : ¬ (o : Int) ≤ (ob' : Int) := by omega
                      have HI := Lib.hid (raDec HRA1.out (by omega) hcn hon)
                      have hp := HRA1
                      go_wp2_with (fail)
                      refine HI.out.mono ?_
                      rintro e w4 ⟨rfl, hM4, hK4, hb4, T4, hf4⟩
                      have HF4 := Lib.hid hf4
                      have HX4 := Lib.hid (hK4.blk HX1.out HLX.out)
                      have x0 := HX4.out.cell 0
                      have x1 := HX4.out.cell 1
                      have x2 := HX4.out.cell 2
                      have h0 := hM4.h0
                      have hp := hM4.at_.cp hcn
                      have hr := hM4.at_.cr hcn hon
                      have HM4 := Lib.hid hM4
                      clear hf4 hM4 hK4 HI HRA1 HX1
                      generalize hpp : M.parts c ob' = p at *
                      have HPP := Lib.hid hpp
                      clear hpp
                      have e1 : IntKind.i64.wrap (p - 1) = p - 1 := IntWalk.i64_in _ (by omega)
                      go_upto_region 37 with (go_at_call 19; refine (num_calls _ _).mono ?_; rintro e w' ⟨rfl, rfl⟩)
                      go_still_tail 14, (by kernel_rfl)
                      change wpList _ _ _ _ _ (w4.drewN 1)
                      have HM5 := Lib.hid (HM4.out.drewN 1)
                      have HX5 := Lib.hid (show Blk (w4.drewN 1) _ _ _ from HX4.out)
                      clear h0 hp hr x0 x1 x2 HX4 HM4
                      generalize w4.drewN 1 = w5 at *
                      have hr := HM5.out.at_.cr hcn hon
                      rw [HPP.out] at hr
                      have fr := HM5.out.at_.fr hcn ob'
                      have HM6 := Lib.hid (HM5.out.setPart hcn ob' (p - 1))
                      have HX6 := Lib.hid (HX5.out.far (p := ⟨B.rb c, ob', none⟩) (HMN.out _ (.inr (.inr (.inr (.inr (.inr (.inr (.inr (.inr ⟨c, hcn, rfl⟩))))))))) (.int .i64 (p - 1)))
                      go_upto_region 38 with (fail)
                      generalize w5.setCell ⟨B.rb c, ob', none⟩ (.int .i64 (p - 1)) = w6 at *
                      clear hr fr e1 HX5
                      have h5 := HM6.out.h5
                      have ce := HM6.out.at_.cbe hon
                      have fe := HM6.out.at_.fbe ob'
                      have x2 := HX6.out.cell 2
                      go_still_tail 7, (by kernel_rfl)
                      change wpList _ _ _ _ _ (w6.drewN 1)
                      have HM7 := Lib.hid (HM6.out.drewN 1)
                      clear h5 ce fe x2 HX6 HM6
                      generalize w6.drewN 1 = w7 at *
                      have ce := HM7.out.at_.cbe hon
                      have fe := HM7.out.at_.fbe ob'
                      have HM8 := Lib.hid (HM7.out.setEver ob' true)
                      obtain ⟨M8, hR8⟩ := RA.ex (HF4.out _ HM8.out)
                      have HR8 := Lib.hid hR8
                      clear HM7 HM8 HF4 HM5 hR8
                      go_upto_region 39 with (fail)
                      clear ce fe
                      generalize w7.setCell ⟨B.be, ob', none⟩ (.bool true) = w8 at *
                      have q7 := HR8.out.h7
                      have HE := Lib.hid (fun d : Nat => raEpoch (HR8.out.drewN d))
                      have HA0 := Lib.hid (fun d : Nat => HR8.out.drewN d)
                      have HL8 := Lib.hid (deads_lenR HR8.out)
                      go_upto_region 39 with (fail)
                      go_region_held3 (fun w' => w'.cell? ⟨B.b, 7, none⟩ = some (.int .i64 M8.ep)) (first | exact q7 | exact hA5.h7 | exact hA4.h7)
                        ((first
                          | (go_at_call 20; refine (HE.out _).mono ?_; rintro e w' ⟨rfl, dE, rfl⟩)
                          | (go_at_call 23; refine (raDead (by first | exact hA5 | exact HA0.out _)).mono ?_; rintro e w4 ⟨v4, rfl, ho4, hA4, hK4⟩)
                          | (go_at_call 24; refine (raList (by first | exact hA4 | exact HA0.out _)).mono ?_; rintro e w5 ⟨v5, rfl, ho5, hA5, hB5⟩)
                          | (go_at_call 22; refine (same_intsL (mdeads M8 o) v4 v5 _ (by first | exact Sl.ofOwn ho4 | exact Sl.ofOwn (own_belowR ho4 hB5)) (by first | exact Sl.ofOwn ho5 | exact Sl.ofOwn (own_keep ho5 hK4)) HL8.out).mono ?_; rintro e w' ⟨rfl, d6, rfl⟩)))
                      all_goals (
                        go_wp2_with (fail)
                        go_roundw
                        case rel => first | exact ⟨j + 1, _, _, _, by go_num, by omega, by omega, (hA5.mono (i' := ((j + 1 : Nat) : Int)) (by omega) (by omega)).drewN _⟩ | exact ⟨j + 1, _, _, _, by go_num, by omega, by omega, (hA4.mono (i' := ((j + 1 : Nat) : Int)) (by omega) (by omega)).drewN _⟩
                        case measure => simp [intOf]; omega)
                  · as_aux_lemma =>
                      have HO := raObj HRA1.out (c : Int) ob ⟨by omega, by omega⟩ (by omega)
                      have HC1 := Lib.hid HO.2
                      have HRA2 := Lib.hid (HRA1.out.mono (i' := ((j + 1 : Nat) : Int)) (by omega) (by omega))
                      have hob2 : ob < 0 ∨ (0 ≤ ob ∧ (o : Int) ≤ ob) := by omega
                      clear HO hob HRA1
                      rcases hob2 with hob2 | ⟨hob2, hob3⟩
                      all_goals (
                        go_wp2_with (first
                          | (go_at_call 14; refine HC1.out.mono ?_; rintro e w' ⟨rfl, rfl⟩)
                          | (go_at_call 19; refine (num_calls _ _).mono ?_; rintro e w' ⟨rfl, rfl⟩))
                        go_roundw
                        case rel => exact ⟨j + 1, L1, T, M, by go_num, by omega, by omega, HRA2.out⟩
                        case measure => simp [intOf]; omega)
              · as_aux_lemma =>
                  have h3n : ¬ kd < 3 := by omega
                  have h5n : ¬ kd < 5 := by omega
                  have HI := Lib.hid (raFlush HRA1.out (by omega) hcn)
                  have HBD := Lib.hid (HRA1.out.bd hcn)
                  go_wp2_with (fail)
                  refine HI.out.mono ?_
                  rintro e w4 ⟨rfl, hM4, hK4, T4, hf4⟩
                  have HF4 := Lib.hid hf4
                  have HX4 := Lib.hid (hK4.blk HX1.out HLX.out)
                  have x0 := HX4.out.cell 0
                  have x1 := HX4.out.cell 1
                  have x2 := HX4.out.cell 2
                  have HM4 := Lib.hid hM4
                  clear hf4 hM4 hK4 HI HRA1 HX1
                  go_wp2_with (go_at_call 19; refine (num_calls _ _).mono ?_; rintro e w' ⟨rfl, rfl⟩)
                  refine (mflush_calls (by first | exact HM4.out | exact HM4.out.drewN _) HBD.out.1.1 HBD.out.1.2 hcn HBD.out.2.1 HBD.out.2.2).mono ?_
                  rintro e w8 ⟨rfl, M8, hFl, hM5⟩
                  have HR8 := Lib.hid (HF4.out _ _ hFl hM5)
                  clear x0 x1 x2 HX4 HM4 HF4 HBD hFl hM5
                  have q7 := HR8.out.h7
                  have HE := Lib.hid (fun d : Nat => raEpoch (HR8.out.drewN d))
                  have HA0 := Lib.hid (fun d : Nat => HR8.out.drewN d)
                  have HL8 := Lib.hid (deads_lenR HR8.out)
                  go_upto_region 39 with (fail)
                  go_region_held3 (fun w' => w'.cell? ⟨B.b, 7, none⟩ = some (.int .i64 M8.ep)) (first | exact q7 | exact hA5.h7 | exact hA4.h7)
                    ((first
                      | (go_at_call 20; refine (HE.out _).mono ?_; rintro e w' ⟨rfl, dE, rfl⟩)
                      | (go_at_call 23; refine (raDead (by first | exact hA5 | exact HA0.out _)).mono ?_; rintro e w4 ⟨v4, rfl, ho4, hA4, hK4⟩)
                      | (go_at_call 24; refine (raList (by first | exact hA4 | exact HA0.out _)).mono ?_; rintro e w5 ⟨v5, rfl, ho5, hA5, hB5⟩)
                      | (go_at_call 22; refine (same_intsL (mdeads M8 o) v4 v5 _ (by first | exact Sl.ofOwn ho4 | exact Sl.ofOwn (own_belowR ho4 hB5)) (by first | exact Sl.ofOwn ho5 | exact Sl.ofOwn (own_keep ho5 hK4)) HL8.out).mono ?_; rintro e w' ⟨rfl, d6, rfl⟩)))
                  all_goals (
                    go_wp2_with (fail)
                    go_roundw
                    case rel => first | exact ⟨j + 1, _, _, _, by go_num, by omega, by omega, (hA5.mono (i' := ((j + 1 : Nat) : Int)) (by omega) (by omega)).drewN _⟩ | exact ⟨j + 1, _, _, _, by go_num, by omega, by omega, (hA4.mono (i' := ((j + 1 : Nat) : Int)) (by omega) (by omega)).drewN _⟩
                    case measure => simp [intOf]; omega)
          · as_aux_lemma =>
              have hex : ¬ j < len ∨ (j < len ∧ ¬ ((j : Int) < 200)) := by omega
              have HC := Lib.hid (fun d : Nat => raCounts (HRA.out.drewN d))
              have HC0 := Lib.hid (raCounts HRA.out)
              have HB := Lib.hid HRA.out.keeps
              clear hboth HRA
              rcases hex with hj1 | ⟨hj1, hj2⟩
              all_goals (
                go_wp2_with (first
                  | (go_at_call 25; (first | refine (HC.out _).mono ?_ | refine HC0.out.mono ?_); rintro e w4 ⟨rfl, d4, rfl⟩))
                refine (awake6 _).mono ?_
                rintro e w5 ⟨rfl, hb5⟩
                go_wp2_with (fail)
                go_ret
                first | exact ⟨rfl, bel_then (below_drewN' HB.out _) hb5⟩ | exact ⟨rfl, below_drewN' (bel_then (below_drewN' HB.out _) hb5) _⟩)
end Go.Proofs.Ytokldnmhhhaalaa
