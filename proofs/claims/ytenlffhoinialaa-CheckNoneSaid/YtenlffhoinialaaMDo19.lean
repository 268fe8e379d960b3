/- The document's link. (Printed in part by genact13.py.) -/
import Derived.Test.YtenlffhoinialaaMDoD
namespace Go.Proofs.Ytenlffhoinialaa
open Go.RowKit
set_option maxHeartbeats 2000000
attribute [local go_sem ↓] Go.wp_at_zero Go.wp_at_succ
theorem ncheck_ne {s : ByteArray} (h : ncheck s = 0) : s ≠ ⟨#[]⟩ := by
  rintro rfl
  unfold ncheck at h
  rw [if_neg (by decide), if_pos (by rw [ByteArray.toList_eq]; rfl)] at h
  cases h
theorem fullN_all {L : List (ByteArray × Int)} (h : ∀ e ∈ L, ncheck e.1 = 0) (nm : ByteArray) : fullN L nm ⟨#[]⟩ = (L.filter fun e => nbucket e.1 == nbucket nm).length := by
  unfold fullN
  congr 1
  refine List.filter_congr fun e he => ?_
  unfold inB
  rw [decide_eq_false (ncheck_ne (h e he))]
  rfl
set_option maxRecDepth 1000000 in
theorem link_calls {w : World} {base ob : Nat} {iv ov mv : Value} {ev : Nat → Value} {S : St} (hT : StT w base ob iv ov mv ev S) (hbw : base ≤ w.heap.size) (hI : Inv S) (c : CallD) :
    Calls Try.prog 127 #[.pointer (some ⟨ob, 0, none⟩), .agg #[.int .i64 c.kind, .int .i64 c.core, .int .i64 c.fd, .int .i64 c.off, .int .i64 c.num, .string c.path, .string c.path2, .string c.data]] w fun e w' => MutR base ob w' e ∧ Bk base w w' := by
  obtain ⟨A, cap, rfl⟩ := hT.row.ino.at'.form
  obtain ⟨OA, ocap, rfl⟩ := hT.row.opn.at'.form
  obtain ⟨MA, mcap, rfl⟩ := hT.row.mad.at'.form
  have hni := hI.ni
  have HI := Lib.hid hI
  have HF0 := Lib.hid (Fr.lay hT hbw c)
  have HBL := Lib.hid (Fr.lay_below w (.cells #[.int .i64 c.kind, .int .i64 c.core, .int .i64 c.fd, .int .i64 c.off, .int .i64 c.num, .string c.path, .string c.path2, .string c.data] 51) (.cells #[.int .i64 0, .int .i64 0, .int .i64 0, .bool false, .string ⟨#[]⟩, .slice none 0 0] 47))
  obtain ⟨n, hnn⟩ : ∃ n, S.inodes.length = n := ⟨_, rfl⟩
  obtain ⟨no, hno⟩ : ∃ n, S.opens.length = n := ⟨_, rfl⟩
  obtain ⟨nm_, hnm⟩ : ∃ n, S.made.length = n := ⟨_, rfl⟩
  have HNN := Lib.hid hnn
  have HNO := Lib.hid hno
  have HNM := Lib.hid hnm
  rw [hnn, hno, hnm] at HF0
  rw [hnn] at hni
  clear hT hI hnn hno hnm
  go_enter Try.func127, Try.ntmps127
  go_upto_region 1 with (fail)
  obtain ⟨cb, hcb⟩ : ∃ x, x = w.heap.size := ⟨_, rfl⟩
  have HCB := Lib.hid hcb
  obtain ⟨rb, hrb⟩ : ∃ x, x = w.heap.size + 1 := ⟨_, rfl⟩
  have HRB := Lib.hid hrb
  rw [← hrb, ← hcb] at HF0
  rw [← hrb, ← hcb]
  clear hcb hrb
  generalize (w.alloc (.cells #[.int .i64 c.kind, .int .i64 c.core, .int .i64 c.fd, .int .i64 c.off, .int .i64 c.num, .string c.path, .string c.path2, .string c.data] 51)).alloc (.cells #[.int .i64 0, .int .i64 0, .int .i64 0, .bool false, .string ⟨#[]⟩, .slice none 0 0] 47) = w0 at *
  have HB0 := Lib.hid (HBL.out.bk hbw)
  have hbw0 : base ≤ w0.heap.size := by have := HBL.out.size; omega
  clear HBL
  have p0 : w0.cell? ⟨ob, 0, none⟩ = some (.slice A n cap) := HF0.out.st.c0
  have p1 : w0.cell? ⟨ob, 1, none⟩ = some (.slice OA no ocap) := HF0.out.st.c1
  have p2 : w0.cell? ⟨ob, 2, none⟩ = some (.slice MA nm_ mcap) := HF0.out.st.c2
  have k5 : w0.cell? ⟨cb, 5, none⟩ = some (.string c.path) := HF0.out.cB.cell 5
  go_cut [5, 6] (fun s1 s2 wx => ∃ num code, s1 = .int .i64 num ∧ s2 = .int .i64 code ∧ FindR S num code ∧ Below w0.heap.size w0 wx)
  case first =>
    refine wp_region_held_drew (S := fun w' => (w'.cell? ⟨ob, 0, none⟩ = some (.slice A n cap) ∧ w'.cell? ⟨ob, 1, none⟩ = some (.slice OA no ocap) ∧ w'.cell? ⟨ob, 2, none⟩ = some (.slice MA nm_ mcap) ∧ w'.cell? ⟨cb, 5, none⟩ = some (.string c.path))) (by kernel_rfl) (⟨p0, p1, p2, k5⟩) (fun hHeld => ?_)
    refine wpAnyH_take (i := 0) (oi := ⟨some 11, _, _, _, _, _⟩) (v := .pointer (some ⟨ob, 0, none⟩)) rfl (by kernel_rfl) (by kernel_rfl) (by kernel_rfl) (fun _ _ _ h => h) (Or.inl ⟨by kernel_rfl, fun w hSw => by go_simp⟩) (by assumption) ?_
    simp only [Act.put, lTA, lC0, lCS]
    refine wpAnyH_take (i := 1) (oi := ⟨some 12, _, _, _, _, _⟩) (v := .pointer (some ⟨ob, 0, none⟩)) rfl (by kernel_rfl) (by kernel_rfl) (by kernel_rfl) (fun _ _ _ h => h) (Or.inl ⟨by kernel_rfl, fun w hSw => by go_simp⟩) (by assumption) ?_
    simp only [Act.put, lTA, lC0, lCS]
    refine wpAnyH_take (i := 2) (oi := ⟨some 13, _, _, _, _, _⟩) (v := .agg #[.slice A n cap, .slice OA no ocap, .slice MA nm_ mcap]) rfl (by kernel_rfl) (by kernel_rfl) (by kernel_rfl) (fun _ _ _ h => h) (Or.inl ⟨by kernel_rfl, fun w hSw => by go_simp⟩) (by assumption) ?_
    simp only [Act.put, lTA, lC0, lCS]
    refine wpAnyH_take (i := 3) (oi := ⟨some 14, _, _, _, _, _⟩) (v := .pointer (some ⟨cb, 5, none⟩)) rfl (by kernel_rfl) (by kernel_rfl) (by kernel_rfl) (fun _ _ _ h => h) (Or.inl ⟨by kernel_rfl, fun w hSw => by go_simp⟩) (by assumption) ?_
    simp only [Act.put, lTA, lC0, lCS]
    refine wpAnyH_take (i := 4) (oi := ⟨some 15, _, _, _, _, _⟩) (v := .string c.path) rfl (by kernel_rfl) (by kernel_rfl) (by kernel_rfl) (fun _ _ _ h => h) (Or.inl ⟨by kernel_rfl, fun w hSw => by go_simp⟩) (by assumption) ?_
    simp only [Act.put, lTA, lC0, lCS]
    refine wpAnyH_ready (rs := [5]) (by kernel_rfl) (by simp) ?_
    refine AllReadyH.cons rfl (fun K hK => ?_) AllReadyH.nil
    go_simp
    refine (Find_calls (HF0.out.st.stm.keep (below_drew1 w0)) HI.out c.path).mono ?_
    rintro e w2 ⟨num, code, rfl, hfr, hB2⟩
    show K _ _
    refine hK.out _ _ (⟨(hB2.cell (World.block_lt_of_cell? _ _ hHeld.1)).trans hHeld.1, (hB2.cell (World.block_lt_of_cell? _ _ hHeld.2.1)).trans hHeld.2.1, (hB2.cell (World.block_lt_of_cell? _ _ hHeld.2.2.1)).trans hHeld.2.2.1, (hB2.cell (World.block_lt_of_cell? _ _ hHeld.2.2.2)).trans hHeld.2.2.2⟩) (fun hHeld => ?_)
    clear hK K
    refine wpAnyH_take (i := 6) (oi := ⟨some 10, _, _, _, _, _⟩) (v := .tuple #[.int .i64 num, .int .i64 code]) rfl (by kernel_rfl) (by kernel_rfl) (by kernel_rfl) (fun _ _ _ h => h) (Or.inl ⟨by kernel_rfl, fun w hSw => by go_simp⟩) (by assumption) ?_
    simp only [Act.put, lTA, lC0, lCS]
    refine wpAnyH_take (i := 7) (oi := ⟨some 17, _, _, _, _, _⟩) (v := .int .i64 num) rfl (by kernel_rfl) (by kernel_rfl) (by kernel_rfl) (fun _ _ _ h => h) (Or.inl ⟨by kernel_rfl, fun w hSw => by go_simp⟩) (by assumption) ?_
    simp only [Act.put, lTA, lC0, lCS]
    refine wpAnyH_take (i := 8) (oi := ⟨some 18, _, _, _, _, _⟩) (v := .int .i64 code) rfl (by kernel_rfl) (by kernel_rfl) (by kernel_rfl) (fun _ _ _ h => h) (Or.inl ⟨by kernel_rfl, fun w hSw => by go_simp⟩) (by assumption) ?_
    simp only [Act.put, lTA, lC0, lCS]
    refine wpAnyH_take (i := 9) (oi := ⟨some 5, _, _, _, _, _⟩) (v := .int .i64 num) rfl (by kernel_rfl) (by kernel_rfl) (by kernel_rfl) (fun _ _ _ h => h) (Or.inl ⟨by kernel_rfl, fun w hSw => by go_simp⟩) (by assumption) ?_
    simp only [Act.put, lTA, lC0, lCS]
    refine wpAnyH_take (i := 10) (oi := ⟨some 6, _, _, _, _, _⟩) (v := .int .i64 code) rfl (by kernel_rfl) (by kernel_rfl) (by kernel_rfl) (fun _ _ _ h => h) (Or.inl ⟨by kernel_rfl, fun w hSw => by go_simp⟩) (by assumption) ?_
    simp only [Act.put, lTA, lC0, lCS]
    refine wpAnyH_done (by kernel_rfl) ?_ _
    go_wp2_with (fail)
    go_meet
    case rel => exact ⟨_, _, rfl, rfl, hfr, (below_drew1 w0).trans hB2⟩
  case rest =>
    obtain ⟨num, code, rfl, rfl, hfr, hbc⟩ := hcut
    have HFR := Lib.hid hfr
    have HF1 := Lib.hid (HF0.out.below hbc)
    have HB1 := Lib.hid (HB0.out.trans (hbc.bk hbw0))
    obtain ⟨w1, hw1⟩ : ∃ x : World, x = wc := ⟨_, rfl⟩
    have hbw1 : base ≤ w1.heap.size := by rw [hw1]; exact Nat.le_trans hbw0 hbc.size
    subst hw1
    clear p0 p1 p2 k5 hfr hbc HF0 HB0 hbw0
    by_cases hc0 : code = 0
    · subst hc0
      obtain ⟨i, hha⟩ := (HFR.out.resolve_left (fun h => h rfl)).2
      have HHA := Lib.hid hha
      have hil : i < n := by have := hha.1; rwa [HNN.out] at this
      have hil1 : (i : Int) < (n : Int) := by omega
      have hil2 : (0 : Int) ≤ (i : Int) := by omega
      have ei : IntKind.i64.wrap (i : Int) = (i : Int) := IntWalk.i64_in _ (by omega)
      obtain ⟨-, -, ig, ioff, rfl, hcell⟩ := (show RowAt w1 (.slice A n cap) n 4 (inoC S ev) by have := HF1.out.st.stm.ino; rwa [HNN.out] at this).at_ hil
      have q1 : w1.cell? ⟨ig, ioff + i * 4 + 1, none⟩ = some (.bool (S.dir i)) := hcell 1 (by omega)
      have p0 : w1.cell? ⟨ob, 0, none⟩ = some (.slice (some ⟨ig, ioff, none⟩) n cap) := HF1.out.st.c0
      have p1 : w1.cell? ⟨ob, 1, none⟩ = some (.slice OA no ocap) := HF1.out.st.c1
      have p2 : w1.cell? ⟨ob, 2, none⟩ = some (.slice MA nm_ mcap) := HF1.out.st.c2
      have HCA := Lib.hid (by have := At_calls (HF1.out.st.stm.keep (below_drew1 w1)) (by rw [HNN.out]; omega) num; rwa [hha.2.1] at this)
      obtain ⟨dv, hdv⟩ : ∃ x, S.dir i = x := ⟨_, rfl⟩
      have HDR := Lib.hid hdv
      rw [hdv] at q1
      clear hcell hha hdv
      go_upto_region 2 with (fail)
      go_cut [34] (fun s wx => s = .bool dv ∧ Below w1.heap.size w1 wx)
      case first =>
        refine wp_region_held_drew (S := fun w' => (w'.cell? ⟨ob, 0, none⟩ = some (.slice (some ⟨ig, ioff, none⟩) n cap) ∧ w'.cell? ⟨ob, 1, none⟩ = some (.slice OA no ocap) ∧ w'.cell? ⟨ob, 2, none⟩ = some (.slice MA nm_ mcap) ∧ w'.cell? ⟨ig, ioff + i * 4 + 1, none⟩ = some (.bool dv))) (by kernel_rfl) (⟨p0, p1, p2, q1⟩) (fun hHeld => ?_)
        refine wpAnyH_take (i := 0) (oi := ⟨some 19, _, _, _, _, _⟩) (v := .int .i64 0) rfl (by kernel_rfl) (by kernel_rfl) (by kernel_rfl) (fun _ _ _ h => h) (Or.inl ⟨by kernel_rfl, fun w hSw => by go_simp⟩) (by assumption) ?_
        simp only [Act.put, lTA, lC0, lCS]
        refine wpAnyH_take (i := 1) (oi := ⟨some 20, _, _, _, _, _⟩) (v := .bool true) rfl (by kernel_rfl) (by kernel_rfl) (by kernel_rfl) (fun _ _ _ h => h) (Or.inl ⟨by kernel_rfl, fun w hSw => by go_simp⟩) (by assumption) ?_
        simp only [Act.put, lTA, lC0, lCS]
        refine wpAnyH_take (i := 2) (oi := ⟨some 21, _, _, _, _, _⟩) (v := .bool true) rfl (by kernel_rfl) (by kernel_rfl) (by kernel_rfl) (fun _ _ _ h => h) (Or.inl ⟨by kernel_rfl, fun w hSw => by go_simp⟩) (by assumption) ?_
        simp only [Act.put, lTA, lC0, lCS]
        refine wpAnyH_take (i := 3) (oi := ⟨some 22, _, _, _, _, _⟩) (v := .pointer (some ⟨ob, 0, none⟩)) rfl (by kernel_rfl) (by kernel_rfl) (by kernel_rfl) (fun _ _ _ h => h) (Or.inl ⟨by kernel_rfl, fun w hSw => by go_simp⟩) (by assumption) ?_
        simp only [Act.put, lTA, lC0, lCS]
        refine wpAnyH_take (i := 4) (oi := ⟨some 23, _, _, _, _, _⟩) (v := .pointer (some ⟨ob, 0, none⟩)) rfl (by kernel_rfl) (by kernel_rfl) (by kernel_rfl) (fun _ _ _ h => h) (Or.inl ⟨by kernel_rfl, fun w hSw => by go_simp⟩) (by assumption) ?_
        simp only [Act.put, lTA, lC0, lCS]
        refine wpAnyH_take (i := 5) (oi := ⟨some 24, _, _, _, _, _⟩) (v := .pointer (some ⟨ob, 0, none⟩)) rfl (by kernel_rfl) (by kernel_rfl) (by kernel_rfl) (fun _ _ _ h => h) (Or.inl ⟨by kernel_rfl, fun w hSw => by go_simp⟩) (by assumption) ?_
        simp only [Act.put, lTA, lC0, lCS]
        refine wpAnyH_take (i := 6) (oi := ⟨some 25, _, _, _, _, _⟩) (v := .slice (some ⟨ig, ioff, none⟩) n cap) rfl (by kernel_rfl) (by kernel_rfl) (by kernel_rfl) (fun _ _ _ h => h) (Or.inl ⟨by kernel_rfl, fun w hSw => by go_simp⟩) (by assumption) ?_
        simp only [Act.put, lTA, lC0, lCS]
        refine wpAnyH_take (i := 7) (oi := ⟨some 26, _, _, _, _, _⟩) (v := .pointer (some ⟨ob, 0, none⟩)) rfl (by kernel_rfl) (by kernel_rfl) (by kernel_rfl) (fun _ _ _ h => h) (Or.inl ⟨by kernel_rfl, fun w hSw => by go_simp⟩) (by assumption) ?_
        simp only [Act.put, lTA, lC0, lCS]
        refine wpAnyH_take (i := 8) (oi := ⟨some 27, _, _, _, _, _⟩) (v := .pointer (some ⟨ob, 0, none⟩)) rfl (by kernel_rfl) (by kernel_rfl) (by kernel_rfl) (fun _ _ _ h => h) (Or.inl ⟨by kernel_rfl, fun w hSw => by go_simp⟩) (by assumption) ?_
        simp only [Act.put, lTA, lC0, lCS]
        refine wpAnyH_take (i := 9) (oi := ⟨some 28, _, _, _, _, _⟩) (v := .agg #[.slice (some ⟨ig, ioff, none⟩) n cap, .slice OA no ocap, .slice MA nm_ mcap]) rfl (by kernel_rfl) (by kernel_rfl) (by kernel_rfl) (fun _ _ _ h => h) (Or.inl ⟨by kernel_rfl, fun w hSw => by go_simp⟩) (by assumption) ?_
        simp only [Act.put, lTA, lC0, lCS]
        refine wpAnyH_take (i := 10) (oi := ⟨some 29, _, _, _, _, _⟩) (v := .int .i64 num) rfl (by kernel_rfl) (by kernel_rfl) (by kernel_rfl) (fun _ _ _ h => h) (Or.inl ⟨by kernel_rfl, fun w hSw => by go_simp⟩) (by assumption) ?_
        simp only [Act.put, lTA, lC0, lCS]
        refine wpAnyH_ready (rs := [11]) (by kernel_rfl) (by simp) ?_
        refine AllReadyH.cons rfl (fun K hK => ?_) AllReadyH.nil
        go_simp
        refine (HCA.out).mono ?_
        rintro e w3 ⟨rfl, hB3⟩
        show K _ _
        refine hK.out _ _ (⟨(hB3.cell (World.block_lt_of_cell? _ _ hHeld.1)).trans hHeld.1, (hB3.cell (World.block_lt_of_cell? _ _ hHeld.2.1)).trans hHeld.2.1, (hB3.cell (World.block_lt_of_cell? _ _ hHeld.2.2.1)).trans hHeld.2.2.1, (hB3.cell (World.block_lt_of_cell? _ _ hHeld.2.2.2)).trans hHeld.2.2.2⟩) (fun hHeld => ?_)
        clear hK K
        refine wpAnyH_take (i := 12) (oi := ⟨some 31, _, _, _, _, _⟩) (v := .pointer (some ⟨ig, ioff + i * 4, none⟩)) rfl (by kernel_rfl) (by kernel_rfl) (by kernel_rfl) (fun _ _ _ h => h) (Or.inl ⟨by kernel_rfl, fun w hSw => by go_simp⟩) (by assumption) ?_
        simp only [Act.put, lTA, lC0, lCS]
        refine wpAnyH_take (i := 13) (oi := ⟨some 32, _, _, _, _, _⟩) (v := .pointer (some ⟨ig, ioff + i * 4 + 1, none⟩)) rfl (by kernel_rfl) (by kernel_rfl) (by kernel_rfl) (fun _ _ _ h => h) (Or.inl ⟨by kernel_rfl, fun w hSw => by go_simp⟩) (by assumption) ?_
        simp only [Act.put, lTA, lC0, lCS]
        refine wpAnyH_take (i := 14) (oi := ⟨some 33, _, _, _, _, _⟩) (v := .bool dv) rfl (by kernel_rfl) (by kernel_rfl) (by kernel_rfl) (fun _ _ _ h => h) (Or.inl ⟨by kernel_rfl, fun w hSw => by go_simp⟩) (by assumption) ?_
        simp only [Act.put, lTA, lC0, lCS]
        refine wpAnyH_take (i := 15) (oi := ⟨some 34, _, _, _, _, _⟩) (v := .bool dv) rfl (by kernel_rfl) (by kernel_rfl) (by kernel_rfl) (fun _ _ _ h => h) (Or.inl ⟨by kernel_rfl, fun w hSw => by go_simp⟩) (by assumption) ?_
        simp only [Act.put, lTA, lC0, lCS]
        refine wpAnyH_done (by kernel_rfl) ?_ _
        go_wp2_with (fail)
        go_meet
        case rel => exact ⟨rfl, (below_drew1 w1).trans hB3⟩
      case rest =>
        obtain ⟨rfl, hbc⟩ := hcut
        have HF2 := Lib.hid (HF1.out.below hbc)
        have HB2 := Lib.hid (HB1.out.trans (hbc.bk hbw1))
        obtain ⟨w2, hw2⟩ : ∃ x : World, x = wc := ⟨_, rfl⟩
        have hbw2 : base ≤ w2.heap.size := by rw [hw2]; exact Nat.le_trans hbw1 hbc.size
        subst hw2
        clear p0 p1 p2 q1 hbc HF1 HB1 hbw1 HCA
        rcases bool_tf dv with rfl | rfl
        · go_wp2_with (go_at_call 94; refine (fail2 _ _).mono ?_; rintro e wz ⟨rfl, hBz⟩; have HZ := Lib.hid (HF2.out.below hBz); have r0 : wz.cell? ⟨rb, 0, none⟩ = some (.int .i64 0) := HZ.out.rB.cell 0; have l0 := HZ.out.rB.frozen 0; have r1 : wz.cell? ⟨rb, 1, none⟩ = some (.int .i64 0) := HZ.out.rB.cell 1; have l1 := HZ.out.rB.frozen 1; have r2 : wz.cell? ⟨rb, 2, none⟩ = some (.int .i64 0) := HZ.out.rB.cell 2; have l2 := HZ.out.rB.frozen 2; have r3 : wz.cell? ⟨rb, 3, none⟩ = some (.bool false) := HZ.out.rB.cell 3; have l3 := HZ.out.rB.frozen 3; have r4 : wz.cell? ⟨rb, 4, none⟩ = some (.string ⟨#[]⟩) := HZ.out.rB.cell 4; have l4 := HZ.out.rB.frozen 4; have r5 : wz.cell? ⟨rb, 5, none⟩ = some (.slice none 0 0) := HZ.out.rB.cell 5; have l5 := HZ.out.rB.frozen 5; have HBZ := Lib.hid hBz; clear hBz)
          refine bodyPost_ret (v := .agg #[.int .i64 8, .int .i64 0, .int .i64 0, .bool false, .string ⟨#[]⟩, .slice none 0 0]) ?_ rfl ⟨⟨8, _, _, _, _, _, _, _, rfl, fun h => absurd h (by decide)⟩, Bk.set6 (HB2.out.trans (HBZ.out.bk hbw2)) HZ.out.rb_le (by have := HRB.out; omega) _ _ _ _ _ _⟩
          simp [results, Try.results127, go_sem, r0, r1, r2, r3, r4, r5]
        · have HDF := Lib.hid (show (S.ino i).dir = false from HDR.out)
          have p0 : w2.cell? ⟨ob, 0, none⟩ = some (.slice (some ⟨ig, ioff, none⟩) n cap) := HF2.out.st.c0
          have p1 : w2.cell? ⟨ob, 1, none⟩ = some (.slice OA no ocap) := HF2.out.st.c1
          have p2 : w2.cell? ⟨ob, 2, none⟩ = some (.slice MA nm_ mcap) := HF2.out.st.c2
          have k6 : w2.cell? ⟨cb, 6, none⟩ = some (.string c.path2) := HF2.out.cB.cell 6
          go_upto_region 6 with (fail)
          go_cut [7, 8, 9] (fun s1 s2 s3 wx => ∃ dnum nm code2, s1 = .int .i64 dnum ∧ s2 = .string nm ∧ s3 = .int .i64 code2 ∧ ParentR S dnum nm code2 ∧ Below w2.heap.size w2 wx)
          case first =>
            refine wp_region_held_drew (S := fun w' => (w'.cell? ⟨ob, 0, none⟩ = some (.slice (some ⟨ig, ioff, none⟩) n cap) ∧ w'.cell? ⟨ob, 1, none⟩ = some (.slice OA no ocap) ∧ w'.cell? ⟨ob, 2, none⟩ = some (.slice MA nm_ mcap) ∧ w'.cell? ⟨cb, 6, none⟩ = some (.string c.path2))) (by kernel_rfl) (⟨p0, p1, p2, k6⟩) (fun hHeld => ?_)
            refine wpAnyH_take (i := 0) (oi := ⟨some 40, _, _, _, _, _⟩) (v := .pointer (some ⟨ob, 0, none⟩)) rfl (by kernel_rfl) (by kernel_rfl) (by kernel_rfl) (fun _ _ _ h => h) (Or.inl ⟨by kernel_rfl, fun w hSw => by go_simp⟩) (by assumption) ?_
            simp only [Act.put, lTA, lC0, lCS]
            refine wpAnyH_take (i := 1) (oi := ⟨some 41, _, _, _, _, _⟩) (v := .pointer (some ⟨ob, 0, none⟩)) rfl (by kernel_rfl) (by kernel_rfl) (by kernel_rfl) (fun _ _ _ h => h) (Or.inl ⟨by kernel_rfl, fun w hSw => by go_simp⟩) (by assumption) ?_
            simp only [Act.put, lTA, lC0, lCS]
            refine wpAnyH_take (i := 2) (oi := ⟨some 42, _, _, _, _, _⟩) (v := .agg #[.slice (some ⟨ig, ioff, none⟩) n cap, .slice OA no ocap, .slice MA nm_ mcap]) rfl (by kernel_rfl) (by kernel_rfl) (by kernel_rfl) (fun _ _ _ h => h) (Or.inl ⟨by kernel_rfl, fun w hSw => by go_simp⟩) (by assumption) ?_
            simp only [Act.put, lTA, lC0, lCS]
            refine wpAnyH_take (i := 3) (oi := ⟨some 43, _, _, _, _, _⟩) (v := .pointer (some ⟨cb, 6, none⟩)) rfl (by kernel_rfl) (by kernel_rfl) (by kernel_rfl) (fun _ _ _ h => h) (Or.inl ⟨by kernel_rfl, fun w hSw => by go_simp⟩) (by assumption) ?_
            simp only [Act.put, lTA, lC0, lCS]
            refine wpAnyH_take (i := 4) (oi := ⟨some 44, _, _, _, _, _⟩) (v := .string c.path2) rfl (by kernel_rfl) (by kernel_rfl) (by kernel_rfl) (fun _ _ _ h => h) (Or.inl ⟨by kernel_rfl, fun w hSw => by go_simp⟩) (by assumption) ?_
            simp only [Act.put, lTA, lC0, lCS]
            refine wpAnyH_ready (rs := [5]) (by kernel_rfl) (by simp) ?_
            refine AllReadyH.cons rfl (fun K hK => ?_) AllReadyH.nil
            go_simp
            refine (Parent_calls (HF2.out.st.stm.keep (below_drew1 w2)) HI.out c.path2).mono ?_
            rintro e wP ⟨dnum, nm, code2, rfl, hpr, hBP⟩
            show K _ _
            refine hK.out _ _ (⟨(hBP.cell (World.block_lt_of_cell? _ _ hHeld.1)).trans hHeld.1, (hBP.cell (World.block_lt_of_cell? _ _ hHeld.2.1)).trans hHeld.2.1, (hBP.cell (World.block_lt_of_cell? _ _ hHeld.2.2.1)).trans hHeld.2.2.1, (hBP.cell (World.block_lt_of_cell? _ _ hHeld.2.2.2)).trans hHeld.2.2.2⟩) (fun hHeld => ?_)
            clear hK K
            refine wpAnyH_take (i := 6) (oi := ⟨some 39, _, _, _, _, _⟩) (v := .tuple #[.int .i64 dnum, .string nm, .int .i64 code2]) rfl (by kernel_rfl) (by kernel_rfl) (by kernel_rfl) (fun _ _ _ h => h) (Or.inl ⟨by kernel_rfl, fun w hSw => by go_simp⟩) (by assumption) ?_
            simp only [Act.put, lTA, lC0, lCS]
            refine wpAnyH_take (i := 7) (oi := ⟨some 46, _, _, _, _, _⟩) (v := .int .i64 dnum) rfl (by kernel_rfl) (by kernel_rfl) (by kernel_rfl) (fun _ _ _ h => h) (Or.inl ⟨by kernel_rfl, fun w hSw => by go_simp⟩) (by assumption) ?_
            simp only [Act.put, lTA, lC0, lCS]
            refine wpAnyH_take (i := 8) (oi := ⟨some 47, _, _, _, _, _⟩) (v := .string nm) rfl (by kernel_rfl) (by kernel_rfl) (by kernel_rfl) (fun _ _ _ h => h) (Or.inl ⟨by kernel_rfl, fun w hSw => by go_simp⟩) (by assumption) ?_
            simp only [Act.put, lTA, lC0, lCS]
            refine wpAnyH_take (i := 9) (oi := ⟨some 48, _, _, _, _, _⟩) (v := .int .i64 code2) rfl (by kernel_rfl) (by kernel_rfl) (by kernel_rfl) (fun _ _ _ h => h) (Or.inl ⟨by kernel_rfl, fun w hSw => by go_simp⟩) (by assumption) ?_
            simp only [Act.put, lTA, lC0, lCS]
            refine wpAnyH_take (i := 10) (oi := ⟨some 7, _, _, _, _, _⟩) (v := .int .i64 dnum) rfl (by kernel_rfl) (by kernel_rfl) (by kernel_rfl) (fun _ _ _ h => h) (Or.inl ⟨by kernel_rfl, fun w hSw => by go_simp⟩) (by assumption) ?_
            simp only [Act.put, lTA, lC0, lCS]
            refine wpAnyH_take (i := 11) (oi := ⟨some 8, _, _, _, _, _⟩) (v := .string nm) rfl (by kernel_rfl) (by kernel_rfl) (by kernel_rfl) (fun _ _ _ h => h) (Or.inl ⟨by kernel_rfl, fun w hSw => by go_simp⟩) (by assumption) ?_
            simp only [Act.put, lTA, lC0, lCS]
            refine wpAnyH_take (i := 12) (oi := ⟨some 9, _, _, _, _, _⟩) (v := .int .i64 code2) rfl (by kernel_rfl) (by kernel_rfl) (by kernel_rfl) (fun _ _ _ h => h) (Or.inl ⟨by kernel_rfl, fun w hSw => by go_simp⟩) (by assumption) ?_
            simp only [Act.put, lTA, lC0, lCS]
            refine wpAnyH_done (by kernel_rfl) ?_ _
            go_wp2_with (fail)
            go_meet
            case rel => exact ⟨_, _, _, rfl, rfl, rfl, hpr, (below_drew1 w2).trans hBP⟩
          case rest =>
            obtain ⟨dnum, nm, code2, rfl, rfl, rfl, hpr, hbc⟩ := hcut
            have HPR := Lib.hid hpr
            have HF3 := Lib.hid (HF2.out.below hbc)
            have HB3 := Lib.hid (HB2.out.trans (hbc.bk hbw2))
            obtain ⟨w3, hw3⟩ : ∃ x : World, x = wc := ⟨_, rfl⟩
            have hbw3 : base ≤ w3.heap.size := by rw [hw3]; exact Nat.le_trans hbw2 hbc.size
            subst hw3
            clear p0 p1 p2 k6 hpr hbc HF2 HB2 hbw2
            by_cases hd0 : code2 = 0
            · subst hd0
              obtain ⟨⟨di, hda, hddir⟩, hnm⟩ := (HPR.out.resolve_left (fun h => h rfl)).2
              have HDA := Lib.hid hda
              have HDD := Lib.hid (show (S.ino di).dir = true from hddir)
              have HNM_ := Lib.hid hnm
              have HNSZ := Lib.hid (ncheck_size hnm)
              have HCE := Lib.hid (Entry_calls HF3.out.st.stm (by rw [HNN.out]; omega) HI.out.small.en dnum nm)
              have HEZ := Lib.hid (show entF S dnum nm = entIn (S.ino di).ents nm from entF_at hda nm)
              obtain ⟨en, hen⟩ : ∃ x, entF S dnum nm = x := ⟨_, rfl⟩
              rw [hen] at HCE HEZ
              have p0 : w3.cell? ⟨ob, 0, none⟩ = some (.slice (some ⟨ig, ioff, none⟩) n cap) := HF3.out.st.c0
              have p1 : w3.cell? ⟨ob, 1, none⟩ = some (.slice OA no ocap) := HF3.out.st.c1
              have p2 : w3.cell? ⟨ob, 2, none⟩ = some (.slice MA nm_ mcap) := HF3.out.st.c2
              clear hda hddir hnm hen
              by_cases he0 : en = 0
              · subst he0
                go_upto_region 11 with (go_at_call 119; refine HCE.out.mono ?_; rintro e w4 ⟨rfl, hB4⟩; have HB4 := Lib.hid hB4; clear hB4)
                have HF4 := Lib.hid (HF3.out.below HB4.out)
                have HB5 := Lib.hid (HB3.out.trans (HB4.out.bk hbw3))
                have hbw4 : base ≤ w4.heap.size := Nat.le_trans hbw3 HB4.out.size
                clear p0 p1 p2 HCE HF3 HB3 hbw3
                have HCF := Lib.hid (full_calls HF4.out.st.stm HI.out HDA.out (nm := nm) (but := ⟨#[]⟩) (by have := HNSZ.out; omega))
                have HFA := Lib.hid (fullN_all (L := (S.ino di).ents) (fun e he => HI.out.nam _ HDA.out.mem.1 e he) nm)
                obtain ⟨fn, hfn⟩ : ∃ x, fullN (S.ino di).ents nm ⟨#[]⟩ = x := ⟨_, rfl⟩
                rw [hfn] at HCF HFA
                clear hfn
                have p0 : w4.cell? ⟨ob, 0, none⟩ = some (.slice (some ⟨ig, ioff, none⟩) n cap) := HF4.out.st.c0
                have p1 : w4.cell? ⟨ob, 1, none⟩ = some (.slice OA no ocap) := HF4.out.st.c1
                have p2 : w4.cell? ⟨ob, 2, none⟩ = some (.slice MA nm_ mcap) := HF4.out.st.c2
                by_cases hfl : 4 ≤ fn
                · have hfl1 : decide (4 ≤ fn) = true := decide_eq_true hfl
                  rw [hfl1] at HCF
                  go_wp2_with (first | (go_at_call 120; refine HCF.out.mono ?_; rintro e w5 ⟨rfl, hB5⟩; have HB6 := Lib.hid hB5; have HF5 := Lib.hid (HF4.out.below hB5); clear hB5) | (go_at_call 94; refine (fail2 _ _).mono ?_; rintro e wz ⟨rfl, hBz⟩; have HZ := Lib.hid (HF5.out.below hBz); have r0 : wz.cell? ⟨rb, 0, none⟩ = some (.int .i64 0) := HZ.out.rB.cell 0; have l0 := HZ.out.rB.frozen 0; have r1 : wz.cell? ⟨rb, 1, none⟩ = some (.int .i64 0) := HZ.out.rB.cell 1; have l1 := HZ.out.rB.frozen 1; have r2 : wz.cell? ⟨rb, 2, none⟩ = some (.int .i64 0) := HZ.out.rB.cell 2; have l2 := HZ.out.rB.frozen 2; have r3 : wz.cell? ⟨rb, 3, none⟩ = some (.bool false) := HZ.out.rB.cell 3; have l3 := HZ.out.rB.frozen 3; have r4 : wz.cell? ⟨rb, 4, none⟩ = some (.string ⟨#[]⟩) := HZ.out.rB.cell 4; have l4 := HZ.out.rB.frozen 4; have r5 : wz.cell? ⟨rb, 5, none⟩ = some (.slice none 0 0) := HZ.out.rB.cell 5; have l5 := HZ.out.rB.frozen 5; have HBZ := Lib.hid hBz; clear hBz))
                  refine bodyPost_ret (v := .agg #[.int .i64 5, .int .i64 0, .int .i64 0, .bool false, .string ⟨#[]⟩, .slice none 0 0]) ?_ rfl ⟨⟨5, _, _, _, _, _, _, _, rfl, fun h => absurd h (by decide)⟩, Bk.set6 (HB5.out.trans ((HB6.out.trans (HBZ.out.mono HB6.out.size)).bk hbw4)) HZ.out.rb_le (by have := HRB.out; omega) _ _ _ _ _ _⟩
                  simp [results, Try.results127, go_sem, r0, r1, r2, r3, r4, r5]
                · have hfl1 : decide (4 ≤ fn) = false := decide_eq_false hfl
                  rw [hfl1] at HCF
                  have HFL := Lib.hid (show ((S.ino di).ents.filter fun e => nbucket e.1 == nbucket nm).length < 4 by rw [← HFA.out]; omega)
                  go_upto_region 13 with (go_at_call 120; refine HCF.out.mono ?_; rintro e w5 ⟨rfl, hB5⟩; have HB6 := Lib.hid hB5; have HF5 := Lib.hid (HF4.out.below hB5); clear hB5)
                  have hbw5 : base ≤ w5.heap.size := Nat.le_trans hbw4 HB6.out.size
                  have HPT := Lib.hid (put_calls HF5.out.st hbw5 HI.out.wk HDA.out (nm := nm) HNSZ.out num)
                  go_wp2_with (first | (go_at_call 121; refine HPT.out.mono ?_; rintro e w6 ⟨rfl, hB7, hK7, ev6, hT6⟩; have HB7 := Lib.hid (Bk.mk hB7 hK7); have HT6 := Lib.hid hT6; have HF6 := Lib.hid (Fr.mk hT6 (hK7.block HF5.out.cB (by decide) (by decide) (by decide)) (hK7.block HF5.out.rB (by decide) (by decide) (by decide)) HF5.out.rb_le); clear hB7 hT6 hK7) | (go_at_call 94; refine (fail2 _ _).mono ?_; rintro e wz ⟨rfl, hBz⟩; have HZ := Lib.hid (HF6.out.below hBz); have r0 : wz.cell? ⟨rb, 0, none⟩ = some (.int .i64 0) := HZ.out.rB.cell 0; have l0 := HZ.out.rB.frozen 0; have r1 : wz.cell? ⟨rb, 1, none⟩ = some (.int .i64 0) := HZ.out.rB.cell 1; have l1 := HZ.out.rB.frozen 1; have r2 : wz.cell? ⟨rb, 2, none⟩ = some (.int .i64 0) := HZ.out.rB.cell 2; have l2 := HZ.out.rB.frozen 2; have r3 : wz.cell? ⟨rb, 3, none⟩ = some (.bool false) := HZ.out.rB.cell 3; have l3 := HZ.out.rB.frozen 3; have r4 : wz.cell? ⟨rb, 4, none⟩ = some (.string ⟨#[]⟩) := HZ.out.rB.cell 4; have l4 := HZ.out.rB.frozen 4; have r5 : wz.cell? ⟨rb, 5, none⟩ = some (.slice none 0 0) := HZ.out.rB.cell 5; have l5 := HZ.out.rB.frozen 5; have HBZ := Lib.hid hBz; clear hBz))
                  have hbw6 : base ≤ w6.heap.size := Nat.le_trans hbw5 HB7.out.bel.size
                  refine bodyPost_ret (v := .agg #[.int .i64 0, .int .i64 0, .int .i64 0, .bool false, .string ⟨#[]⟩, .slice none 0 0]) ?_ rfl ⟨⟨0, _, _, _, _, _, _, _, rfl, fun _ => ⟨_, _, _, _, _, (HI.out.link HDA.out.mem.1 HDA.out.mem.2 HDD.out (p := (nm, num)) HNM_.out (entIn_zero (HI.out.ent_pos HDA.out.mem.1) HEZ.out.symm) HFL.out ⟨_, HHA.out.mem.1, HHA.out.mem.2, HDF.out⟩), HZ.out.st.set6 HZ.out.rB _ _ _ _ _ _⟩⟩, Bk.set6 ((HB5.out.trans ((HB6.out.bk hbw4).trans (HB7.out.trans (HBZ.out.bk hbw6))))) HZ.out.rb_le (by have := HRB.out; omega) _ _ _ _ _ _⟩
                  simp [results, Try.results127, go_sem, r0, r1, r2, r3, r4, r5]
              · have he1 : (en != 0) = true := by simpa using he0
                clear he0
                go_wp2_with (first | (go_at_call 119; refine HCE.out.mono ?_; rintro e w4 ⟨rfl, hB4⟩; have HB4 := Lib.hid hB4; have HF4 := Lib.hid (HF3.out.below hB4); clear hB4) | (go_at_call 94; refine (fail2 _ _).mono ?_; rintro e wz ⟨rfl, hBz⟩; have HZ := Lib.hid (HF4.out.below hBz); have r0 : wz.cell? ⟨rb, 0, none⟩ = some (.int .i64 0) := HZ.out.rB.cell 0; have l0 := HZ.out.rB.frozen 0; have r1 : wz.cell? ⟨rb, 1, none⟩ = some (.int .i64 0) := HZ.out.rB.cell 1; have l1 := HZ.out.rB.frozen 1; have r2 : wz.cell? ⟨rb, 2, none⟩ = some (.int .i64 0) := HZ.out.rB.cell 2; have l2 := HZ.out.rB.frozen 2; have r3 : wz.cell? ⟨rb, 3, none⟩ = some (.bool false) := HZ.out.rB.cell 3; have l3 := HZ.out.rB.frozen 3; have r4 : wz.cell? ⟨rb, 4, none⟩ = some (.string ⟨#[]⟩) := HZ.out.rB.cell 4; have l4 := HZ.out.rB.frozen 4; have r5 : wz.cell? ⟨rb, 5, none⟩ = some (.slice none 0 0) := HZ.out.rB.cell 5; have l5 := HZ.out.rB.frozen 5; have HBZ := Lib.hid hBz; clear hBz))
                refine bodyPost_ret (v := .agg #[.int .i64 2, .int .i64 0, .int .i64 0, .bool false, .string ⟨#[]⟩, .slice none 0 0]) ?_ rfl ⟨⟨2, _, _, _, _, _, _, _, rfl, fun h => absurd h (by decide)⟩, Bk.set6 (HB3.out.trans ((HB4.out.trans (HBZ.out.mono HB4.out.size)).bk hbw3)) HZ.out.rb_le (by have := HRB.out; omega) _ _ _ _ _ _⟩
                simp [results, Try.results127, go_sem, r0, r1, r2, r3, r4, r5]
            · have hd1 : (code2 != 0) = true := by simpa using hd0
              have HC0 := Lib.hid hd0
              clear hd0
              go_wp2_with (go_at_call 94; refine (fail2 _ _).mono ?_; rintro e wz ⟨rfl, hBz⟩; have HZ := Lib.hid (HF3.out.below hBz); have r0 : wz.cell? ⟨rb, 0, none⟩ = some (.int .i64 0) := HZ.out.rB.cell 0; have l0 := HZ.out.rB.frozen 0; have r1 : wz.cell? ⟨rb, 1, none⟩ = some (.int .i64 0) := HZ.out.rB.cell 1; have l1 := HZ.out.rB.frozen 1; have r2 : wz.cell? ⟨rb, 2, none⟩ = some (.int .i64 0) := HZ.out.rB.cell 2; have l2 := HZ.out.rB.frozen 2; have r3 : wz.cell? ⟨rb, 3, none⟩ = some (.bool false) := HZ.out.rB.cell 3; have l3 := HZ.out.rB.frozen 3; have r4 : wz.cell? ⟨rb, 4, none⟩ = some (.string ⟨#[]⟩) := HZ.out.rB.cell 4; have l4 := HZ.out.rB.frozen 4; have r5 : wz.cell? ⟨rb, 5, none⟩ = some (.slice none 0 0) := HZ.out.rB.cell 5; have l5 := HZ.out.rB.frozen 5; have HBZ := Lib.hid hBz; clear hBz)
              refine bodyPost_ret (v := .agg #[.int .i64 code2, .int .i64 0, .int .i64 0, .bool false, .string ⟨#[]⟩, .slice none 0 0]) ?_ rfl ⟨⟨code2, _, _, _, _, _, _, _, rfl, fun h => absurd h (HC0.out)⟩, Bk.set6 (HB3.out.trans (HBZ.out.bk hbw3)) HZ.out.rb_le (by have := HRB.out; omega) _ _ _ _ _ _⟩
              simp [results, Try.results127, go_sem, r0, r1, r2, r3, r4, r5]
    · have hc1 : (code == 0) = false := by rw [beq_eq_false_iff_ne]; exact hc0
      have hc2 : (code != 0) = true := by simpa using hc0
      have HC0 := Lib.hid hc0
      clear hc0
      go_upto_region 2 with (fail)
      go_cut [34] (fun s wx => s = .bool false ∧ Below w1.heap.size w1 wx)
      case first =>
        refine wp_region_held_drew (S := fun w' => True) (by kernel_rfl) (trivial) (fun hHeld => ?_)
        refine wpAnyH_take (i := 0) (oi := ⟨some 19, _, _, _, _, _⟩) (v := .int .i64 code) rfl (by kernel_rfl) (by kernel_rfl) (by kernel_rfl) (fun _ _ _ h => h) (Or.inl ⟨by kernel_rfl, fun w hSw => by go_simp⟩) (by assumption) ?_
        simp only [Act.put, lTA, lC0, lCS]
        refine wpAnyH_take (i := 1) (oi := ⟨some 20, _, _, _, _, _⟩) (v := .bool false) rfl (by kernel_rfl) (by kernel_rfl) (by kernel_rfl) (fun _ _ _ h => h) (Or.inl ⟨by kernel_rfl, fun w hSw => by go_simp⟩) (by assumption) ?_
        simp only [Act.put, lTA, lC0, lCS]
        refine wpAnyH_take (i := 2) (oi := ⟨some 21, _, _, _, _, _⟩) (v := .bool false) rfl (by kernel_rfl) (by kernel_rfl) (by kernel_rfl) (fun _ _ _ h => h) (Or.inl ⟨by kernel_rfl, fun w hSw => by go_simp⟩) (by assumption) ?_
        simp only [Act.put, lTA, lC0, lCS]
        refine wpAnyH_take (i := 3) (oi := ⟨some 22, _, _, _, _, _⟩) (v := undef) rfl (by kernel_rfl) (by kernel_rfl) (by kernel_rfl) (fun _ _ _ h => h) (Or.inr ⟨by kernel_rfl, rfl⟩) (by assumption) ?_
        simp only [Act.put, lTA, lC0, lCS]
        refine wpAnyH_take (i := 4) (oi := ⟨some 23, _, _, _, _, _⟩) (v := undef) rfl (by kernel_rfl) (by kernel_rfl) (by kernel_rfl) (fun _ _ _ h => h) (Or.inr ⟨by kernel_rfl, rfl⟩) (by assumption) ?_
        simp only [Act.put, lTA, lC0, lCS]
        refine wpAnyH_take (i := 5) (oi := ⟨some 24, _, _, _, _, _⟩) (v := undef) rfl (by kernel_rfl) (by kernel_rfl) (by kernel_rfl) (fun _ _ _ h => h) (Or.inr ⟨by kernel_rfl, rfl⟩) (by assumption) ?_
        simp only [Act.put, lTA, lC0, lCS]
        refine wpAnyH_take (i := 6) (oi := ⟨some 25, _, _, _, _, _⟩) (v := undef) rfl (by kernel_rfl) (by kernel_rfl) (by kernel_rfl) (fun _ _ _ h => h) (Or.inr ⟨by kernel_rfl, rfl⟩) (by assumption) ?_
        simp only [Act.put, lTA, lC0, lCS]
        refine wpAnyH_take (i := 7) (oi := ⟨some 26, _, _, _, _, _⟩) (v := undef) rfl (by kernel_rfl) (by kernel_rfl) (by kernel_rfl) (fun _ _ _ h => h) (Or.inr ⟨by kernel_rfl, rfl⟩) (by assumption) ?_
        simp only [Act.put, lTA, lC0, lCS]
        refine wpAnyH_take (i := 8) (oi := ⟨some 27, _, _, _, _, _⟩) (v := undef) rfl (by kernel_rfl) (by kernel_rfl) (by kernel_rfl) (fun _ _ _ h => h) (Or.inr ⟨by kernel_rfl, rfl⟩) (by assumption) ?_
        simp only [Act.put, lTA, lC0, lCS]
        refine wpAnyH_take (i := 9) (oi := ⟨some 28, _, _, _, _, _⟩) (v := undef) rfl (by kernel_rfl) (by kernel_rfl) (by kernel_rfl) (fun _ _ _ h => h) (Or.inr ⟨by kernel_rfl, rfl⟩) (by assumption) ?_
        simp only [Act.put, lTA, lC0, lCS]
        refine wpAnyH_take (i := 10) (oi := ⟨some 29, _, _, _, _, _⟩) (v := undef) rfl (by kernel_rfl) (by kernel_rfl) (by kernel_rfl) (fun _ _ _ h => h) (Or.inr ⟨by kernel_rfl, rfl⟩) (by assumption) ?_
        simp only [Act.put, lTA, lC0, lCS]
        refine wpAnyH_take (i := 11) (oi := ⟨some 30, _, _, _, _, _⟩) (v := undef) rfl (by kernel_rfl) (by kernel_rfl) (by kernel_rfl) (fun _ _ _ h => h) (Or.inr ⟨by kernel_rfl, rfl⟩) (by assumption) ?_
        simp only [Act.put, lTA, lC0, lCS]
        refine wpAnyH_take (i := 12) (oi := ⟨some 31, _, _, _, _, _⟩) (v := undef) rfl (by kernel_rfl) (by kernel_rfl) (by kernel_rfl) (fun _ _ _ h => h) (Or.inr ⟨by kernel_rfl, rfl⟩) (by assumption) ?_
        simp only [Act.put, lTA, lC0, lCS]
        refine wpAnyH_take (i := 13) (oi := ⟨some 32, _, _, _, _, _⟩) (v := undef) rfl (by kernel_rfl) (by kernel_rfl) (by kernel_rfl) (fun _ _ _ h => h) (Or.inr ⟨by kernel_rfl, rfl⟩) (by assumption) ?_
        simp only [Act.put, lTA, lC0, lCS]
        refine wpAnyH_take (i := 14) (oi := ⟨some 33, _, _, _, _, _⟩) (v := undef) rfl (by kernel_rfl) (by kernel_rfl) (by kernel_rfl) (fun _ _ _ h => h) (Or.inr ⟨by kernel_rfl, rfl⟩) (by assumption) ?_
        simp only [Act.put, lTA, lC0, lCS]
        refine wpAnyH_take (i := 15) (oi := ⟨some 34, _, _, _, _, _⟩) (v := .bool false) rfl (by kernel_rfl) (by kernel_rfl) (by kernel_rfl) (fun _ _ _ h => h) (Or.inl ⟨by kernel_rfl, fun w hSw => by go_simp⟩) (by assumption) ?_
        simp only [Act.put, lTA, lC0, lCS]
        refine wpAnyH_done (by kernel_rfl) ?_ _
        go_wp2_with (fail)
        go_meet
        case rel => exact ⟨rfl, below_drew1 w1⟩
      case rest =>
        obtain ⟨rfl, hbc⟩ := hcut
        have HF2 := Lib.hid (HF1.out.below hbc)
        have HB2 := Lib.hid (HB1.out.trans (hbc.bk hbw1))
        clear hbc
        go_wp2_with (go_at_call 94; refine (fail2 _ _).mono ?_; rintro e wz ⟨rfl, hBz⟩; have HZ := Lib.hid (HF2.out.below hBz); have r0 : wz.cell? ⟨rb, 0, none⟩ = some (.int .i64 0) := HZ.out.rB.cell 0; have l0 := HZ.out.rB.frozen 0; have r1 : wz.cell? ⟨rb, 1, none⟩ = some (.int .i64 0) := HZ.out.rB.cell 1; have l1 := HZ.out.rB.frozen 1; have r2 : wz.cell? ⟨rb, 2, none⟩ = some (.int .i64 0) := HZ.out.rB.cell 2; have l2 := HZ.out.rB.frozen 2; have r3 : wz.cell? ⟨rb, 3, none⟩ = some (.bool false) := HZ.out.rB.cell 3; have l3 := HZ.out.rB.frozen 3; have r4 : wz.cell? ⟨rb, 4, none⟩ = some (.string ⟨#[]⟩) := HZ.out.rB.cell 4; have l4 := HZ.out.rB.frozen 4; have r5 : wz.cell? ⟨rb, 5, none⟩ = some (.slice none 0 0) := HZ.out.rB.cell 5; have l5 := HZ.out.rB.frozen 5; have HBZ := Lib.hid hBz; clear hBz)
        refine bodyPost_ret (v := .agg #[.int .i64 code, .int .i64 0, .int .i64 0, .bool false, .string ⟨#[]⟩, .slice none 0 0]) ?_ rfl ⟨⟨code, _, _, _, _, _, _, _, rfl, fun h => absurd h (HC0.out)⟩, Bk.set6 (HB2.out.trans (HBZ.out.bk (by have := HB2.out.bel.size; omega))) HZ.out.rb_le (by have := HRB.out; omega) _ _ _ _ _ _⟩
        simp [results, Try.results127, go_sem, r0, r1, r2, r3, r4, r5]
end Go.Proofs.Ytenlffhoinialaa
