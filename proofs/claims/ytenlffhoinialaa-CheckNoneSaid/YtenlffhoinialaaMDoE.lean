/- The document's byFd, Size. (Printed by gen_do28.py.) The document's byFd, the others. (Printed by gen_do28.py.) -/
import Derived.Test.YtenlffhoinialaaMDoD
import Derived.Test.YtenlffhoinialaaMDo21
import Derived.Lib.MinMax
section
namespace Go.Proofs.Ytenlffhoinialaa
open Go.RowKit
set_option maxHeartbeats 16000000
attribute [local go_sem ↓] Go.wp_at_zero Go.wp_at_succ
set_option maxRecDepth 1000000 in
theorem byFd_s {w : World} {base ob : Nat} {iv ov mv : Value} {ev : Nat → Value} {S : St} (hT : StT w base ob iv ov mv ev S) (hbw : base ≤ w.heap.size) (hI : Inv S) (c : CallD) (hk : c.kind = 7) :
    Calls Try.prog 97 #[.pointer (some ⟨ob, 0, none⟩), .agg #[.int .i64 c.kind, .int .i64 c.core, .int .i64 c.fd, .int .i64 c.off, .int .i64 c.num, .string c.path, .string c.path2, .string c.data]] w fun e w' => MutR base ob w' e ∧ Bk base w w' := by
  have HKK := Lib.hid hk
  clear hk
  obtain ⟨d0_, hd, hx0, hx1, hx2⟩ := info_parts info_dsc3
  obtain ⟨A, cap, rfl⟩ := hT.row.ino.at'.form
  obtain ⟨OA, ocap, rfl⟩ := hT.row.opn.at'.form
  obtain ⟨MA, mcap, rfl⟩ := hT.row.mad.at'.form
  have hni := hI.ni
  have HI := Lib.hid hI
  have HF0 := Lib.hid (Fr.lay hT hbw c)
  have HBL := Lib.hid (Fr.lay_below w (.cells #[.int .i64 c.kind, .int .i64 c.core, .int .i64 c.fd, .int .i64 c.off, .int .i64 c.num, .string c.path, .string c.path2, .string c.data] 51) (.cells #[.int .i64 0, .int .i64 0, .int .i64 0, .bool false, .string ⟨#[]⟩, .slice none 0 0] 47))
  obtain ⟨n, hnn⟩ : ∃ n, S.inodes.length = n := ⟨_, rfl⟩
  obtain ⟨no, hno⟩ : ∃ n, S.opens.length = n := ⟨_, rfl⟩
  obtain ⟨nm_, hnm⟩ : ∃ n, S.made.length = n := ⟨_, rfl⟩
  have HNN := Lib.hid hnn
  have HNO := Lib.hid hno
  have HNM := Lib.hid hnm
  rw [hnn, hno, hnm] at HF0
  rw [hnn] at hni
  clear hT hI hnn hno hnm
  go_enter Try.func97, Try.ntmps97
  go_upto_region 1 with (fail)
  obtain ⟨cb, hcb⟩ : ∃ x, x = w.heap.size := ⟨_, rfl⟩
  have HCB := Lib.hid hcb
  obtain ⟨rb, hrb⟩ : ∃ x, x = w.heap.size + 1 := ⟨_, rfl⟩
  have HRB := Lib.hid hrb
  rw [← hrb, ← hcb] at HF0
  rw [← hrb, ← hcb]
  clear hcb hrb
  generalize (w.alloc (.cells #[.int .i64 c.kind, .int .i64 c.core, .int .i64 c.fd, .int .i64 c.off, .int .i64 c.num, .string c.path, .string c.path2, .string c.data] 51)).alloc (.cells #[.int .i64 0, .int .i64 0, .int .i64 0, .bool false, .string ⟨#[]⟩, .slice none 0 0] 47) = w0 at *
  have HB0 := Lib.hid (HBL.out.bk hbw)
  have hbw0 : base ≤ w0.heap.size := by have := HBL.out.size; omega
  clear HBL
  have HFD := Lib.hid (Fd_calls (HF0.out.st.stm.keep (below_drew1 w0)) HI.out.small.no c.core c.fd)
  obtain ⟨num, hnum⟩ : ∃ x, fdF S c.core c.fd = x := ⟨_, rfl⟩
  have HNU := Lib.hid hnum
  rw [hnum] at HFD
  clear hnum
  have p0 : w0.cell? ⟨ob, 0, none⟩ = some (.slice A n cap) := HF0.out.st.c0
  have p1 : w0.cell? ⟨ob, 1, none⟩ = some (.slice OA no ocap) := HF0.out.st.c1
  have p2 : w0.cell? ⟨ob, 2, none⟩ = some (.slice MA nm_ mcap) := HF0.out.st.c2
  have k1 : w0.cell? ⟨cb, 1, none⟩ = some (.int .i64 c.core) := HF0.out.cB.cell 1
  have k2 : w0.cell? ⟨cb, 2, none⟩ = some (.int .i64 c.fd) := HF0.out.cB.cell 2
  go_cut [5] (fun s wx => s = .int .i64 num ∧ Below w0.heap.size w0 wx)
  case first =>
    refine wp_region_held_drew (S := fun w' => (w'.cell? ⟨ob, 0, none⟩ = some (.slice A n cap) ∧ w'.cell? ⟨ob, 1, none⟩ = some (.slice OA no ocap) ∧ w'.cell? ⟨ob, 2, none⟩ = some (.slice MA nm_ mcap) ∧ w'.cell? ⟨cb, 1, none⟩ = some (.int .i64 c.core) ∧ w'.cell? ⟨cb, 2, none⟩ = some (.int .i64 c.fd))) (by kernel_rfl) (⟨p0, p1, p2, k1, k2⟩) (fun hHeld => ?_)
    refine wpAnyH_take (i := 0) (oi := ⟨some 11, _, _, _, _, _⟩) (v := .pointer (some ⟨ob, 0, none⟩)) rfl (by kernel_rfl) (by kernel_rfl) (by kernel_rfl) (fun _ _ _ h => h) (Or.inl ⟨by kernel_rfl, fun w hSw => by go_simp⟩) (by assumption) ?_
    simp only [Act.put, lTA, lC0, lCS]
    refine wpAnyH_take (i := 1) (oi := ⟨some 12, _, _, _, _, _⟩) (v := .pointer (some ⟨ob, 0, none⟩)) rfl (by kernel_rfl) (by kernel_rfl) (by kernel_rfl) (fun _ _ _ h => h) (Or.inl ⟨by kernel_rfl, fun w hSw => by go_simp⟩) (by assumption) ?_
    simp only [Act.put, lTA, lC0, lCS]
    refine wpAnyH_take (i := 2) (oi := ⟨some 13, _, _, _, _, _⟩) (v := .agg #[.slice A n cap, .slice OA no ocap, .slice MA nm_ mcap]) rfl (by kernel_rfl) (by kernel_rfl) (by kernel_rfl) (fun _ _ _ h => h) (Or.inl ⟨by kernel_rfl, fun w hSw => by go_simp⟩) (by assumption) ?_
    simp only [Act.put, lTA, lC0, lCS]
    refine wpAnyH_take (i := 3) (oi := ⟨some 14, _, _, _, _, _⟩) (v := .pointer (some ⟨cb, 1, none⟩)) rfl (by kernel_rfl) (by kernel_rfl) (by kernel_rfl) (fun _ _ _ h => h) (Or.inl ⟨by kernel_rfl, fun w hSw => by go_simp⟩) (by assumption) ?_
    simp only [Act.put, lTA, lC0, lCS]
    refine wpAnyH_take (i := 4) (oi := ⟨some 15, _, _, _, _, _⟩) (v := .int .i64 c.core) rfl (by kernel_rfl) (by kernel_rfl) (by kernel_rfl) (fun _ _ _ h => h) (Or.inl ⟨by kernel_rfl, fun w hSw => by go_simp⟩) (by assumption) ?_
    simp only [Act.put, lTA, lC0, lCS]
    refine wpAnyH_take (i := 5) (oi := ⟨some 16, _, _, _, _, _⟩) (v := .pointer (some ⟨cb, 2, none⟩)) rfl (by kernel_rfl) (by kernel_rfl) (by kernel_rfl) (fun _ _ _ h => h) (Or.inl ⟨by kernel_rfl, fun w hSw => by go_simp⟩) (by assumption) ?_
    simp only [Act.put, lTA, lC0, lCS]
    refine wpAnyH_take (i := 6) (oi := ⟨some 17, _, _, _, _, _⟩) (v := .int .i64 c.fd) rfl (by kernel_rfl) (by kernel_rfl) (by kernel_rfl) (fun _ _ _ h => h) (Or.inl ⟨by kernel_rfl, fun w hSw => by go_simp⟩) (by assumption) ?_
    simp only [Act.put, lTA, lC0, lCS]
    refine wpAnyH_ready (rs := [7]) (by kernel_rfl) (by simp) ?_
    refine AllReadyH.cons rfl (fun K hK => ?_) AllReadyH.nil
    go_simp
    refine HFD.out.mono ?_
    rintro e w2 ⟨rfl, hB2⟩
    show K _ _
    refine hK.out _ _ (⟨(hB2.cell (World.block_lt_of_cell? _ _ hHeld.1)).trans hHeld.1, (hB2.cell (World.block_lt_of_cell? _ _ hHeld.2.1)).trans hHeld.2.1, (hB2.cell (World.block_lt_of_cell? _ _ hHeld.2.2.1)).trans hHeld.2.2.1, (hB2.cell (World.block_lt_of_cell? _ _ hHeld.2.2.2.1)).trans hHeld.2.2.2.1, (hB2.cell (World.block_lt_of_cell? _ _ hHeld.2.2.2.2)).trans hHeld.2.2.2.2⟩) (fun hHeld => ?_)
    clear hK K
    refine wpAnyH_take (i := 8) (oi := ⟨some 5, _, _, _, _, _⟩) (v := .int .i64 num) rfl (by kernel_rfl) (by kernel_rfl) (by kernel_rfl) (fun _ _ _ h => h) (Or.inl ⟨by kernel_rfl, fun w hSw => by go_simp⟩) (by assumption) ?_
    simp only [Act.put, lTA, lC0, lCS]
    refine wpAnyH_done (by kernel_rfl) ?_ _
    go_wp2_with (fail)
    go_meet
    case rel => exact ⟨rfl, (below_drew1 w0).trans hB2⟩
  case rest =>
    obtain ⟨rfl, hbc⟩ := hcut
    have HF1 := Lib.hid (HF0.out.below hbc)
    have HB1 := Lib.hid (HB0.out.trans (hbc.bk hbw0))
    obtain ⟨w1, hw1⟩ : ∃ x : World, x = wc := ⟨_, rfl⟩
    have hbw1 : base ≤ w1.heap.size := by rw [hw1]; exact Nat.le_trans hbw0 hbc.size
    subst hw1
    clear p0 p1 p2 k1 k2 hbc HF0 HB0 hbw0 HFD
    by_cases hn0 : num = 0
    · have hn1 : (num == 0) = true := by rw [hn0]; rfl
      clear hn0
      go_wp2_with (go_at_call 94; refine (fail2 _ _).mono ?_; rintro e wz ⟨rfl, hBz⟩; have HZ := Lib.hid (HF1.out.below hBz); have r0 : wz.cell? ⟨rb, 0, none⟩ = some (.int .i64 0) := HZ.out.rB.cell 0; have l0 := HZ.out.rB.frozen 0; have r1 : wz.cell? ⟨rb, 1, none⟩ = some (.int .i64 0) := HZ.out.rB.cell 1; have l1 := HZ.out.rB.frozen 1; have r2 : wz.cell? ⟨rb, 2, none⟩ = some (.int .i64 0) := HZ.out.rB.cell 2; have l2 := HZ.out.rB.frozen 2; have r3 : wz.cell? ⟨rb, 3, none⟩ = some (.bool false) := HZ.out.rB.cell 3; have l3 := HZ.out.rB.frozen 3; have r4 : wz.cell? ⟨rb, 4, none⟩ = some (.string ⟨#[]⟩) := HZ.out.rB.cell 4; have l4 := HZ.out.rB.frozen 4; have r5 : wz.cell? ⟨rb, 5, none⟩ = some (.slice none 0 0) := HZ.out.rB.cell 5; have l5 := HZ.out.rB.frozen 5; have HBZ := Lib.hid hBz; clear hBz)
      refine bodyPost_ret (v := .agg #[.int .i64 4, .int .i64 0, .int .i64 0, .bool false, .string ⟨#[]⟩, .slice none 0 0]) ?_ rfl ⟨⟨4, _, _, _, _, _, _, _, rfl, fun h => absurd h (by decide)⟩, Bk.set6 (HB1.out.trans (HBZ.out.bk hbw1)) HZ.out.rb_le (by have := HRB.out; omega) _ _ _ _ _ _⟩
      simp [results, Try.results97, go_sem, r0, r1, r2, r3, r4, r5]
    · have hn1 : (num == 0) = false := by rw [beq_eq_false_iff_ne]; exact hn0
      obtain ⟨o, ho, ho1, ho2, ho3⟩ := fd_some (S := S) (co := c.core) (f := c.fd) (by rw [HNU.out]; exact hn0)
      rw [HNU.out] at ho3
      have HCLO := Lib.hid (show InvB (closeS S c.core c.fd) num by have := HI.out.close ho; rwa [ho1, ho2, ho3] at this)
      have HFI := Lib.hid (show ∃ y ∈ S.inodes, y.num = num ∧ y.dir = false by
        obtain ⟨-, -, -, -, y, hy, hy1, hy2⟩ := HI.out.ok o ho
        exact ⟨y, hy, by rw [hy1, ho3], hy2⟩)
      obtain ⟨i, hha⟩ : Has S num := by
        obtain ⟨y, hy, hy1, -⟩ := HFI.out
        rw [← hy1]
        exact HI.out.has_mem hy
      have HHA := Lib.hid hha
      have hil : i < n := by have := hha.1; rwa [HNN.out] at this
      have hil1 : (i : Int) < (n : Int) := by omega
      have hil2 : (0 : Int) ≤ (i : Int) := by omega
      have ei : IntKind.i64.wrap (i : Int) = (i : Int) := IntWalk.i64_in _ (by omega)
      have HCA := Lib.hid (by have := At_calls (HF1.out.st.stm.keep (below_drew1 w1)) (by rw [HNN.out]; omega) num; rwa [hha.2.1] at this)
      obtain ⟨-, -, ig, ioff, rfl, hcell⟩ := (show RowAt w1 (.slice A n cap) n 4 (inoC S ev) by have := HF1.out.st.stm.ino; rwa [HNN.out] at this).at_ hil
      have HQ3 := Lib.hid (show w1.cell? ⟨ig, ioff + i * 4 + 3, none⟩ = some (.string (S.dat i)) from hcell 3 (by omega))
      have HDL := Lib.hid (show (S.dat i).size ≤ 256 from HI.out.dat _ HHA.out.mem.1)
      obtain ⟨dat, hdt⟩ : ∃ x, S.dat i = x := ⟨_, rfl⟩
      have HDT := Lib.hid hdt
      rw [hdt] at HQ3 HDL
      have p0 : w1.cell? ⟨ob, 0, none⟩ = some (.slice (some ⟨ig, ioff, none⟩) n cap) := HF1.out.st.c0
      have p1 : w1.cell? ⟨ob, 1, none⟩ = some (.slice OA no ocap) := HF1.out.st.c1
      have p2 : w1.cell? ⟨ob, 2, none⟩ = some (.slice MA nm_ mcap) := HF1.out.st.c2
      clear ho ho1 ho2 ho3 hha hcell hn0 hdt
      go_upto_region 4 with (fail)
      go_cut [6] (fun s wx => s = .pointer (some ⟨ig, ioff + i * 4, none⟩) ∧ Below w1.heap.size w1 wx)
      case first =>
        refine wp_region_held_drew (S := fun w' => (w'.cell? ⟨ob, 0, none⟩ = some (.slice (some ⟨ig, ioff, none⟩) n cap) ∧ w'.cell? ⟨ob, 1, none⟩ = some (.slice OA no ocap) ∧ w'.cell? ⟨ob, 2, none⟩ = some (.slice MA nm_ mcap))) (by kernel_rfl) (⟨p0, p1, p2⟩) (fun hHeld => ?_)
        refine wpAnyH_take (i := 0) (oi := ⟨some 22, _, _, _, _, _⟩) (v := .pointer (some ⟨ob, 0, none⟩)) rfl (by kernel_rfl) (by kernel_rfl) (by kernel_rfl) (fun _ _ _ h => h) (Or.inl ⟨by kernel_rfl, fun w hSw => by go_simp⟩) (by assumption) ?_
        simp only [Act.put, lTA, lC0, lCS]
        refine wpAnyH_take (i := 1) (oi := ⟨some 23, _, _, _, _, _⟩) (v := .pointer (some ⟨ob, 0, none⟩)) rfl (by kernel_rfl) (by kernel_rfl) (by kernel_rfl) (fun _ _ _ h => h) (Or.inl ⟨by kernel_rfl, fun w hSw => by go_simp⟩) (by assumption) ?_
        simp only [Act.put, lTA, lC0, lCS]
        refine wpAnyH_take (i := 2) (oi := ⟨some 24, _, _, _, _, _⟩) (v := .pointer (some ⟨ob, 0, none⟩)) rfl (by kernel_rfl) (by kernel_rfl) (by kernel_rfl) (fun _ _ _ h => h) (Or.inl ⟨by kernel_rfl, fun w hSw => by go_simp⟩) (by assumption) ?_
        simp only [Act.put, lTA, lC0, lCS]
        refine wpAnyH_take (i := 3) (oi := ⟨some 25, _, _, _, _, _⟩) (v := .slice (some ⟨ig, ioff, none⟩) n cap) rfl (by kernel_rfl) (by kernel_rfl) (by kernel_rfl) (fun _ _ _ h => h) (Or.inl ⟨by kernel_rfl, fun w hSw => by go_simp⟩) (by assumption) ?_
        simp only [Act.put, lTA, lC0, lCS]
        refine wpAnyH_take (i := 4) (oi := ⟨some 26, _, _, _, _, _⟩) (v := .pointer (some ⟨ob, 0, none⟩)) rfl (by kernel_rfl) (by kernel_rfl) (by kernel_rfl) (fun _ _ _ h => h) (Or.inl ⟨by kernel_rfl, fun w hSw => by go_simp⟩) (by assumption) ?_
        simp only [Act.put, lTA, lC0, lCS]
        refine wpAnyH_take (i := 5) (oi := ⟨some 27, _, _, _, _, _⟩) (v := .pointer (some ⟨ob, 0, none⟩)) rfl (by kernel_rfl) (by kernel_rfl) (by kernel_rfl) (fun _ _ _ h => h) (Or.inl ⟨by kernel_rfl, fun w hSw => by go_simp⟩) (by assumption) ?_
        simp only [Act.put, lTA, lC0, lCS]
        refine wpAnyH_take (i := 6) (oi := ⟨some 28, _, _, _, _, _⟩) (v := .agg #[.slice (some ⟨ig, ioff, none⟩) n cap, .slice OA no ocap, .slice MA nm_ mcap]) rfl (by kernel_rfl) (by kernel_rfl) (by kernel_rfl) (fun _ _ _ h => h) (Or.inl ⟨by kernel_rfl, fun w hSw => by go_simp⟩) (by assumption) ?_
        simp only [Act.put, lTA, lC0, lCS]
        refine wpAnyH_take (i := 7) (oi := ⟨some 29, _, _, _, _, _⟩) (v := .int .i64 num) rfl (by kernel_rfl) (by kernel_rfl) (by kernel_rfl) (fun _ _ _ h => h) (Or.inl ⟨by kernel_rfl, fun w hSw => by go_simp⟩) (by assumption) ?_
        simp only [Act.put, lTA, lC0, lCS]
        refine wpAnyH_ready (rs := [8]) (by kernel_rfl) (by simp) ?_
        refine AllReadyH.cons rfl (fun K hK => ?_) AllReadyH.nil
        go_simp
        refine HCA.out.mono ?_
        rintro e w3 ⟨rfl, hB3⟩
        show K _ _
        refine hK.out _ _ (⟨(hB3.cell (World.block_lt_of_cell? _ _ hHeld.1)).trans hHeld.1, (hB3.cell (World.block_lt_of_cell? _ _ hHeld.2.1)).trans hHeld.2.1, (hB3.cell (World.block_lt_of_cell? _ _ hHeld.2.2)).trans hHeld.2.2⟩) (fun hHeld => ?_)
        clear hK K
        refine wpAnyH_take (i := 9) (oi := ⟨some 31, _, _, _, _, _⟩) (v := .pointer (some ⟨ig, ioff + i * 4, none⟩)) rfl (by kernel_rfl) (by kernel_rfl) (by kernel_rfl) (fun _ _ _ h => h) (Or.inl ⟨by kernel_rfl, fun w hSw => by go_simp⟩) (by assumption) ?_
        simp only [Act.put, lTA, lC0, lCS]
        refine wpAnyH_take (i := 10) (oi := ⟨some 6, _, _, _, _, _⟩) (v := .pointer (some ⟨ig, ioff + i * 4, none⟩)) rfl (by kernel_rfl) (by kernel_rfl) (by kernel_rfl) (fun _ _ _ h => h) (Or.inl ⟨by kernel_rfl, fun w hSw => by go_simp⟩) (by assumption) ?_
        simp only [Act.put, lTA, lC0, lCS]
        refine wpAnyH_done (by kernel_rfl) ?_ _
        go_wp2_with (fail)
        go_meet
        case rel => exact ⟨rfl, (below_drew1 w1).trans hB3⟩
      case rest =>
        obtain ⟨rfl, hbc⟩ := hcut
        have HF2 := Lib.hid (HF1.out.below hbc)
        have HB2 := Lib.hid (HB1.out.trans (hbc.bk hbw1))
        have q3 : wc.cell? ⟨ig, ioff + i * 4 + 3, none⟩ = some (.string dat) := (hbc.cell (World.block_lt_of_cell? _ _ HQ3.out)).trans HQ3.out
        obtain ⟨w2, hw2⟩ : ∃ x : World, x = wc := ⟨_, rfl⟩
        have hbw2 : base ≤ w2.heap.size := by rw [hw2]; exact Nat.le_trans hbw1 hbc.size
        subst hw2
        clear p0 p1 p2 hbc HF1 HB1 hbw1 HCA HQ3
        have p0 : w2.cell? ⟨ob, 0, none⟩ = some (.slice (some ⟨ig, ioff, none⟩) n cap) := HF2.out.st.c0
        have p1 : w2.cell? ⟨ob, 1, none⟩ = some (.slice OA no ocap) := HF2.out.st.c1
        have p2 : w2.cell? ⟨ob, 2, none⟩ = some (.slice MA nm_ mcap) := HF2.out.st.c2
        have k0 : w2.cell? ⟨cb, 0, none⟩ = some (.int .i64 c.kind) := HF2.out.cB.cell 0
        have k1 : w2.cell? ⟨cb, 1, none⟩ = some (.int .i64 c.core) := HF2.out.cB.cell 1
        have k2 : w2.cell? ⟨cb, 2, none⟩ = some (.int .i64 c.fd) := HF2.out.cB.cell 2
        have k3 : w2.cell? ⟨cb, 3, none⟩ = some (.int .i64 c.off) := HF2.out.cB.cell 3
        have k4 : w2.cell? ⟨cb, 4, none⟩ = some (.int .i64 c.num) := HF2.out.cB.cell 4
        have k5 : w2.cell? ⟨cb, 5, none⟩ = some (.string c.path) := HF2.out.cB.cell 5
        have k6 : w2.cell? ⟨cb, 6, none⟩ = some (.string c.path2) := HF2.out.cB.cell 6
        have k7 : w2.cell? ⟨cb, 7, none⟩ = some (.string c.data) := HF2.out.cB.cell 7
        have e3 : (c.kind == 3) = false := by rw [HKK.out]; rfl
        have e4 : (c.kind == 4) = false := by rw [HKK.out]; rfl
        have e5 : (c.kind == 5) = false := by rw [HKK.out]; rfl
        have e6 : (c.kind == 6) = false := by rw [HKK.out]; rfl
        have e7 : (c.kind == 7) = true := by rw [HKK.out]; rfl
        have r0 : w2.cell? ⟨rb, 0, none⟩ = some (.int .i64 0) := HF2.out.rB.cell 0
        have l0 := HF2.out.rB.frozen 0
        have r1 : w2.cell? ⟨rb, 1, none⟩ = some (.int .i64 0) := HF2.out.rB.cell 1
        have l1 := HF2.out.rB.frozen 1
        have r2 : w2.cell? ⟨rb, 2, none⟩ = some (.int .i64 0) := HF2.out.rB.cell 2
        have l2 := HF2.out.rB.frozen 2
        have r3 : w2.cell? ⟨rb, 3, none⟩ = some (.bool false) := HF2.out.rB.cell 3
        have l3 := HF2.out.rB.frozen 3
        have r4 : w2.cell? ⟨rb, 4, none⟩ = some (.string ⟨#[]⟩) := HF2.out.rB.cell 4
        have l4 := HF2.out.rB.frozen 4
        have r5 : w2.cell? ⟨rb, 5, none⟩ = some (.slice none 0 0) := HF2.out.rB.cell 5
        have l5 := HF2.out.rB.frozen 5
        go_wp2_with (fail)
        refine bodyPost_ret (v := .agg #[.int .i64 0, .int .i64 0, .int .i64 dat.size, .bool false, .string ⟨#[]⟩, .slice none 0 0]) ?_ rfl ⟨⟨_, _, _, _, _, _, _, _, rfl, fun _ => ⟨_, _, _, _, _, HI.out, HF2.out.st.set6 HF2.out.rB _ _ _ _ _ _⟩⟩, Bk.set6 (HB2.out) HF2.out.rb_le (by have := HRB.out; omega) _ _ _ _ _ _⟩
        simp [results, Try.results97, go_sem, r0, r1, r2, r3, r4, r5]
end Go.Proofs.Ytenlffhoinialaa
end

section
namespace Go.Proofs.Ytenlffhoinialaa
open Go.RowKit
set_option maxHeartbeats 16000000
attribute [local go_sem ↓] Go.wp_at_zero Go.wp_at_succ
set_option maxRecDepth 1000000 in
theorem byFd_z {w : World} {base ob : Nat} {iv ov mv : Value} {ev : Nat → Value} {S : St} (hT : StT w base ob iv ov mv ev S) (hbw : base ≤ w.heap.size) (hI : Inv S) (c : CallD) (n3 : c.kind ≠ 3) (n4 : c.kind ≠ 4) (n5 : c.kind ≠ 5) (n6 : c.kind ≠ 6) (n7 : c.kind ≠ 7) :
    Calls Try.prog 97 #[.pointer (some ⟨ob, 0, none⟩), .agg #[.int .i64 c.kind, .int .i64 c.core, .int .i64 c.fd, .int .i64 c.off, .int .i64 c.num, .string c.path, .string c.path2, .string c.data]] w fun e w' => MutR base ob w' e ∧ Bk base w w' := by
  have N3 := Lib.hid n3
  clear n3
  have N4 := Lib.hid n4
  clear n4
  have N5 := Lib.hid n5
  clear n5
  have N6 := Lib.hid n6
  clear n6
  have N7 := Lib.hid n7
  clear n7
  obtain ⟨d0_, hd, hx0, hx1, hx2⟩ := info_parts info_dsc3
  obtain ⟨A, cap, rfl⟩ := hT.row.ino.at'.form
  obtain ⟨OA, ocap, rfl⟩ := hT.row.opn.at'.form
  obtain ⟨MA, mcap, rfl⟩ := hT.row.mad.at'.form
  have hni := hI.ni
  have HI := Lib.hid hI
  have HF0 := Lib.hid (Fr.lay hT hbw c)
  have HBL := Lib.hid (Fr.lay_below w (.cells #[.int .i64 c.kind, .int .i64 c.core, .int .i64 c.fd, .int .i64 c.off, .int .i64 c.num, .string c.path, .string c.path2, .string c.data] 51) (.cells #[.int .i64 0, .int .i64 0, .int .i64 0, .bool false, .string ⟨#[]⟩, .slice none 0 0] 47))
  obtain ⟨n, hnn⟩ : ∃ n, S.inodes.length = n := ⟨_, rfl⟩
  obtain ⟨no, hno⟩ : ∃ n, S.opens.length = n := ⟨_, rfl⟩
  obtain ⟨nm_, hnm⟩ : ∃ n, S.made.length = n := ⟨_, rfl⟩
  have HNN := Lib.hid hnn
  have HNO := Lib.hid hno
  have HNM := Lib.hid hnm
  rw [hnn, hno, hnm] at HF0
  rw [hnn] at hni
  clear hT hI hnn hno hnm
  go_enter Try.func97, Try.ntmps97
  go_upto_region 1 with (fail)
  obtain ⟨cb, hcb⟩ : ∃ x, x = w.heap.size := ⟨_, rfl⟩
  have HCB := Lib.hid hcb
  obtain ⟨rb, hrb⟩ : ∃ x, x = w.heap.size + 1 := ⟨_, rfl⟩
  have HRB := Lib.hid hrb
  rw [← hrb, ← hcb] at HF0
  rw [← hrb, ← hcb]
  clear hcb hrb
  generalize (w.alloc (.cells #[.int .i64 c.kind, .int .i64 c.core, .int .i64 c.fd, .int .i64 c.off, .int .i64 c.num, .string c.path, .string c.path2, .string c.data] 51)).alloc (.cells #[.int .i64 0, .int .i64 0, .int .i64 0, .bool false, .string ⟨#[]⟩, .slice none 0 0] 47) = w0 at *
  have HB0 := Lib.hid (HBL.out.bk hbw)
  have hbw0 : base ≤ w0.heap.size := by have := HBL.out.size; omega
  clear HBL
  have HFD := Lib.hid (Fd_calls (HF0.out.st.stm.keep (below_drew1 w0)) HI.out.small.no c.core c.fd)
  obtain ⟨num, hnum⟩ : ∃ x, fdF S c.core c.fd = x := ⟨_, rfl⟩
  have HNU := Lib.hid hnum
  rw [hnum] at HFD
  clear hnum
  have p0 : w0.cell? ⟨ob, 0, none⟩ = some (.slice A n cap) := HF0.out.st.c0
  have p1 : w0.cell? ⟨ob, 1, none⟩ = some (.slice OA no ocap) := HF0.out.st.c1
  have p2 : w0.cell? ⟨ob, 2, none⟩ = some (.slice MA nm_ mcap) := HF0.out.st.c2
  have k1 : w0.cell? ⟨cb, 1, none⟩ = some (.int .i64 c.core) := HF0.out.cB.cell 1
  have k2 : w0.cell? ⟨cb, 2, none⟩ = some (.int .i64 c.fd) := HF0.out.cB.cell 2
  go_cut [5] (fun s wx => s = .int .i64 num ∧ Below w0.heap.size w0 wx)
  case first =>
    refine wp_region_held_drew (S := fun w' => (w'.cell? ⟨ob, 0, none⟩ = some (.slice A n cap) ∧ w'.cell? ⟨ob, 1, none⟩ = some (.slice OA no ocap) ∧ w'.cell? ⟨ob, 2, none⟩ = some (.slice MA nm_ mcap) ∧ w'.cell? ⟨cb, 1, none⟩ = some (.int .i64 c.core) ∧ w'.cell? ⟨cb, 2, none⟩ = some (.int .i64 c.fd))) (by kernel_rfl) (⟨p0, p1, p2, k1, k2⟩) (fun hHeld => ?_)
    refine wpAnyH_take (i := 0) (oi := ⟨some 11, _, _, _, _, _⟩) (v := .pointer (some ⟨ob, 0, none⟩)) rfl (by kernel_rfl) (by kernel_rfl) (by kernel_rfl) (fun _ _ _ h => h) (Or.inl ⟨by kernel_rfl, fun w hSw => by go_simp⟩) (by assumption) ?_
    simp only [Act.put, lTA, lC0, lCS]
    refine wpAnyH_take (i := 1) (oi := ⟨some 12, _, _, _, _, _⟩) (v := .pointer (some ⟨ob, 0, none⟩)) rfl (by kernel_rfl) (by kernel_rfl) (by kernel_rfl) (fun _ _ _ h => h) (Or.inl ⟨by kernel_rfl, fun w hSw => by go_simp⟩) (by assumption) ?_
    simp only [Act.put, lTA, lC0, lCS]
    refine wpAnyH_take (i := 2) (oi := ⟨some 13, _, _, _, _, _⟩) (v := .agg #[.slice A n cap, .slice OA no ocap, .slice MA nm_ mcap]) rfl (by kernel_rfl) (by kernel_rfl) (by kernel_rfl) (fun _ _ _ h => h) (Or.inl ⟨by kernel_rfl, fun w hSw => by go_simp⟩) (by assumption) ?_
    simp only [Act.put, lTA, lC0, lCS]
    refine wpAnyH_take (i := 3) (oi := ⟨some 14, _, _, _, _, _⟩) (v := .pointer (some ⟨cb, 1, none⟩)) rfl (by kernel_rfl) (by kernel_rfl) (by kernel_rfl) (fun _ _ _ h => h) (Or.inl ⟨by kernel_rfl, fun w hSw => by go_simp⟩) (by assumption) ?_
    simp only [Act.put, lTA, lC0, lCS]
    refine wpAnyH_take (i := 4) (oi := ⟨some 15, _, _, _, _, _⟩) (v := .int .i64 c.core) rfl (by kernel_rfl) (by kernel_rfl) (by kernel_rfl) (fun _ _ _ h => h) (Or.inl ⟨by kernel_rfl, fun w hSw => by go_simp⟩) (by assumption) ?_
    simp only [Act.put, lTA, lC0, lCS]
    refine wpAnyH_take (i := 5) (oi := ⟨some 16, _, _, _, _, _⟩) (v := .pointer (some ⟨cb, 2, none⟩)) rfl (by kernel_rfl) (by kernel_rfl) (by kernel_rfl) (fun _ _ _ h => h) (Or.inl ⟨by kernel_rfl, fun w hSw => by go_simp⟩) (by assumption) ?_
    simp only [Act.put, lTA, lC0, lCS]
    refine wpAnyH_take (i := 6) (oi := ⟨some 17, _, _, _, _, _⟩) (v := .int .i64 c.fd) rfl (by kernel_rfl) (by kernel_rfl) (by kernel_rfl) (fun _ _ _ h => h) (Or.inl ⟨by kernel_rfl, fun w hSw => by go_simp⟩) (by assumption) ?_
    simp only [Act.put, lTA, lC0, lCS]
    refine wpAnyH_ready (rs := [7]) (by kernel_rfl) (by simp) ?_
    refine AllReadyH.cons rfl (fun K hK => ?_) AllReadyH.nil
    go_simp
    refine HFD.out.mono ?_
    rintro e w2 ⟨rfl, hB2⟩
    show K _ _
    refine hK.out _ _ (⟨(hB2.cell (World.block_lt_of_cell? _ _ hHeld.1)).trans hHeld.1, (hB2.cell (World.block_lt_of_cell? _ _ hHeld.2.1)).trans hHeld.2.1, (hB2.cell (World.block_lt_of_cell? _ _ hHeld.2.2.1)).trans hHeld.2.2.1, (hB2.cell (World.block_lt_of_cell? _ _ hHeld.2.2.2.1)).trans hHeld.2.2.2.1, (hB2.cell (World.block_lt_of_cell? _ _ hHeld.2.2.2.2)).trans hHeld.2.2.2.2⟩) (fun hHeld => ?_)
    clear hK K
    refine wpAnyH_take (i := 8) (oi := ⟨some 5, _, _, _, _, _⟩) (v := .int .i64 num) rfl (by kernel_rfl) (by kernel_rfl) (by kernel_rfl) (fun _ _ _ h => h) (Or.inl ⟨by kernel_rfl, fun w hSw => by go_simp⟩) (by assumption) ?_
    simp only [Act.put, lTA, lC0, lCS]
    refine wpAnyH_done (by kernel_rfl) ?_ _
    go_wp2_with (fail)
    go_meet
    case rel => exact ⟨rfl, (below_drew1 w0).trans hB2⟩
  case rest =>
    obtain ⟨rfl, hbc⟩ := hcut
    have HF1 := Lib.hid (HF0.out.below hbc)
    have HB1 := Lib.hid (HB0.out.trans (hbc.bk hbw0))
    obtain ⟨w1, hw1⟩ : ∃ x : World, x = wc := ⟨_, rfl⟩
    have hbw1 : base ≤ w1.heap.size := by rw [hw1]; exact Nat.le_trans hbw0 hbc.size
    subst hw1
    clear p0 p1 p2 k1 k2 hbc HF0 HB0 hbw0 HFD
    by_cases hn0 : num = 0
    · have hn1 : (num == 0) = true := by rw [hn0]; rfl
      clear hn0
      go_wp2_with (go_at_call 94; refine (fail2 _ _).mono ?_; rintro e wz ⟨rfl, hBz⟩; have HZ := Lib.hid (HF1.out.below hBz); have r0 : wz.cell? ⟨rb, 0, none⟩ = some (.int .i64 0) := HZ.out.rB.cell 0; have l0 := HZ.out.rB.frozen 0; have r1 : wz.cell? ⟨rb, 1, none⟩ = some (.int .i64 0) := HZ.out.rB.cell 1; have l1 := HZ.out.rB.frozen 1; have r2 : wz.cell? ⟨rb, 2, none⟩ = some (.int .i64 0) := HZ.out.rB.cell 2; have l2 := HZ.out.rB.frozen 2; have r3 : wz.cell? ⟨rb, 3, none⟩ = some (.bool false) := HZ.out.rB.cell 3; have l3 := HZ.out.rB.frozen 3; have r4 : wz.cell? ⟨rb, 4, none⟩ = some (.string ⟨#[]⟩) := HZ.out.rB.cell 4; have l4 := HZ.out.rB.frozen 4; have r5 : wz.cell? ⟨rb, 5, none⟩ = some (.slice none 0 0) := HZ.out.rB.cell 5; have l5 := HZ.out.rB.frozen 5; have HBZ := Lib.hid hBz; clear hBz)
      refine bodyPost_ret (v := .agg #[.int .i64 4, .int .i64 0, .int .i64 0, .bool false, .string ⟨#[]⟩, .slice none 0 0]) ?_ rfl ⟨⟨4, _, _, _, _, _, _, _, rfl, fun h => absurd h (by decide)⟩, Bk.set6 (HB1.out.trans (HBZ.out.bk hbw1)) HZ.out.rb_le (by have := HRB.out; omega) _ _ _ _ _ _⟩
      simp [results, Try.results97, go_sem, r0, r1, r2, r3, r4, r5]
    · have hn1 : (num == 0) = false := by rw [beq_eq_false_iff_ne]; exact hn0
      obtain ⟨o, ho, ho1, ho2, ho3⟩ := fd_some (S := S) (co := c.core) (f := c.fd) (by rw [HNU.out]; exact hn0)
      rw [HNU.out] at ho3
      have HCLO := Lib.hid (show InvB (closeS S c.core c.fd) num by have := HI.out.close ho; rwa [ho1, ho2, ho3] at this)
      have HFI := Lib.hid (show ∃ y ∈ S.inodes, y.num = num ∧ y.dir = false by
        obtain ⟨-, -, -, -, y, hy, hy1, hy2⟩ := HI.out.ok o ho
        exact ⟨y, hy, by rw [hy1, ho3], hy2⟩)
      obtain ⟨i, hha⟩ : Has S num := by
        obtain ⟨y, hy, hy1, -⟩ := HFI.out
        rw [← hy1]
        exact HI.out.has_mem hy
      have HHA := Lib.hid hha
      have hil : i < n := by have := hha.1; rwa [HNN.out] at this
      have hil1 : (i : Int) < (n : Int) := by omega
      have hil2 : (0 : Int) ≤ (i : Int) := by omega
      have ei : IntKind.i64.wrap (i : Int) = (i : Int) := IntWalk.i64_in _ (by omega)
      have HCA := Lib.hid (by have := At_calls (HF1.out.st.stm.keep (below_drew1 w1)) (by rw [HNN.out]; omega) num; rwa [hha.2.1] at this)
      obtain ⟨-, -, ig, ioff, rfl, hcell⟩ := (show RowAt w1 (.slice A n cap) n 4 (inoC S ev) by have := HF1.out.st.stm.ino; rwa [HNN.out] at this).at_ hil
      have HQ3 := Lib.hid (show w1.cell? ⟨ig, ioff + i * 4 + 3, none⟩ = some (.string (S.dat i)) from hcell 3 (by omega))
      have HDL := Lib.hid (show (S.dat i).size ≤ 256 from HI.out.dat _ HHA.out.mem.1)
      obtain ⟨dat, hdt⟩ : ∃ x, S.dat i = x := ⟨_, rfl⟩
      have HDT := Lib.hid hdt
      rw [hdt] at HQ3 HDL
      have p0 : w1.cell? ⟨ob, 0, none⟩ = some (.slice (some ⟨ig, ioff, none⟩) n cap) := HF1.out.st.c0
      have p1 : w1.cell? ⟨ob, 1, none⟩ = some (.slice OA no ocap) := HF1.out.st.c1
      have p2 : w1.cell? ⟨ob, 2, none⟩ = some (.slice MA nm_ mcap) := HF1.out.st.c2
      clear ho ho1 ho2 ho3 hha hcell hn0 hdt
      go_upto_region 4 with (fail)
      go_cut [6] (fun s wx => s = .pointer (some ⟨ig, ioff + i * 4, none⟩) ∧ Below w1.heap.size w1 wx)
      case first =>
        refine wp_region_held_drew (S := fun w' => (w'.cell? ⟨ob, 0, none⟩ = some (.slice (some ⟨ig, ioff, none⟩) n cap) ∧ w'.cell? ⟨ob, 1, none⟩ = some (.slice OA no ocap) ∧ w'.cell? ⟨ob, 2, none⟩ = some (.slice MA nm_ mcap))) (by kernel_rfl) (⟨p0, p1, p2⟩) (fun hHeld => ?_)
        refine wpAnyH_take (i := 0) (oi := ⟨some 22, _, _, _, _, _⟩) (v := .pointer (some ⟨ob, 0, none⟩)) rfl (by kernel_rfl) (by kernel_rfl) (by kernel_rfl) (fun _ _ _ h => h) (Or.inl ⟨by kernel_rfl, fun w hSw => by go_simp⟩) (by assumption) ?_
        simp only [Act.put, lTA, lC0, lCS]
        refine wpAnyH_take (i := 1) (oi := ⟨some 23, _, _, _, _, _⟩) (v := .pointer (some ⟨ob, 0, none⟩)) rfl (by kernel_rfl) (by kernel_rfl) (by kernel_rfl) (fun _ _ _ h => h) (Or.inl ⟨by kernel_rfl, fun w hSw => by go_simp⟩) (by assumption) ?_
        simp only [Act.put, lTA, lC0, lCS]
        refine wpAnyH_take (i := 2) (oi := ⟨some 24, _, _, _, _, _⟩) (v := .pointer (some ⟨ob, 0, none⟩)) rfl (by kernel_rfl) (by kernel_rfl) (by kernel_rfl) (fun _ _ _ h => h) (Or.inl ⟨by kernel_rfl, fun w hSw => by go_simp⟩) (by assumption) ?_
        simp only [Act.put, lTA, lC0, lCS]
        refine wpAnyH_take (i := 3) (oi := ⟨some 25, _, _, _, _, _⟩) (v := .slice (some ⟨ig, ioff, none⟩) n cap) rfl (by kernel_rfl) (by kernel_rfl) (by kernel_rfl) (fun _ _ _ h => h) (Or.inl ⟨by kernel_rfl, fun w hSw => by go_simp⟩) (by assumption) ?_
        simp only [Act.put, lTA, lC0, lCS]
        refine wpAnyH_take (i := 4) (oi := ⟨some 26, _, _, _, _, _⟩) (v := .pointer (some ⟨ob, 0, none⟩)) rfl (by kernel_rfl) (by kernel_rfl) (by kernel_rfl) (fun _ _ _ h => h) (Or.inl ⟨by kernel_rfl, fun w hSw => by go_simp⟩) (by assumption) ?_
        simp only [Act.put, lTA, lC0, lCS]
        refine wpAnyH_take (i := 5) (oi := ⟨some 27, _, _, _, _, _⟩) (v := .pointer (some ⟨ob, 0, none⟩)) rfl (by kernel_rfl) (by kernel_rfl) (by kernel_rfl) (fun _ _ _ h => h) (Or.inl ⟨by kernel_rfl, fun w hSw => by go_simp⟩) (by assumption) ?_
        simp only [Act.put, lTA, lC0, lCS]
        refine wpAnyH_take (i := 6) (oi := ⟨some 28, _, _, _, _, _⟩) (v := .agg #[.slice (some ⟨ig, ioff, none⟩) n cap, .slice OA no ocap, .slice MA nm_ mcap]) rfl (by kernel_rfl) (by kernel_rfl) (by kernel_rfl) (fun _ _ _ h => h) (Or.inl ⟨by kernel_rfl, fun w hSw => by go_simp⟩) (by assumption) ?_
        simp only [Act.put, lTA, lC0, lCS]
        refine wpAnyH_take (i := 7) (oi := ⟨some 29, _, _, _, _, _⟩) (v := .int .i64 num) rfl (by kernel_rfl) (by kernel_rfl) (by kernel_rfl) (fun _ _ _ h => h) (Or.inl ⟨by kernel_rfl, fun w hSw => by go_simp⟩) (by assumption) ?_
        simp only [Act.put, lTA, lC0, lCS]
        refine wpAnyH_ready (rs := [8]) (by kernel_rfl) (by simp) ?_
        refine AllReadyH.cons rfl (fun K hK => ?_) AllReadyH.nil
        go_simp
        refine HCA.out.mono ?_
        rintro e w3 ⟨rfl, hB3⟩
        show K _ _
        refine hK.out _ _ (⟨(hB3.cell (World.block_lt_of_cell? _ _ hHeld.1)).trans hHeld.1, (hB3.cell (World.block_lt_of_cell? _ _ hHeld.2.1)).trans hHeld.2.1, (hB3.cell (World.block_lt_of_cell? _ _ hHeld.2.2)).trans hHeld.2.2⟩) (fun hHeld => ?_)
        clear hK K
        refine wpAnyH_take (i := 9) (oi := ⟨some 31, _, _, _, _, _⟩) (v := .pointer (some ⟨ig, ioff + i * 4, none⟩)) rfl (by kernel_rfl) (by kernel_rfl) (by kernel_rfl) (fun _ _ _ h => h) (Or.inl ⟨by kernel_rfl, fun w hSw => by go_simp⟩) (by assumption) ?_
        simp only [Act.put, lTA, lC0, lCS]
        refine wpAnyH_take (i := 10) (oi := ⟨some 6, _, _, _, _, _⟩) (v := .pointer (some ⟨ig, ioff + i * 4, none⟩)) rfl (by kernel_rfl) (by kernel_rfl) (by kernel_rfl) (fun _ _ _ h => h) (Or.inl ⟨by kernel_rfl, fun w hSw => by go_simp⟩) (by assumption) ?_
        simp only [Act.put, lTA, lC0, lCS]
        refine wpAnyH_done (by kernel_rfl) ?_ _
        go_wp2_with (fail)
        go_meet
        case rel => exact ⟨rfl, (below_drew1 w1).trans hB3⟩
      case rest =>
        obtain ⟨rfl, hbc⟩ := hcut
        have HF2 := Lib.hid (HF1.out.below hbc)
        have HB2 := Lib.hid (HB1.out.trans (hbc.bk hbw1))
        have q3 : wc.cell? ⟨ig, ioff + i * 4 + 3, none⟩ = some (.string dat) := (hbc.cell (World.block_lt_of_cell? _ _ HQ3.out)).trans HQ3.out
        obtain ⟨w2, hw2⟩ : ∃ x : World, x = wc := ⟨_, rfl⟩
        have hbw2 : base ≤ w2.heap.size := by rw [hw2]; exact Nat.le_trans hbw1 hbc.size
        subst hw2
        clear p0 p1 p2 hbc HF1 HB1 hbw1 HCA HQ3
        have p0 : w2.cell? ⟨ob, 0, none⟩ = some (.slice (some ⟨ig, ioff, none⟩) n cap) := HF2.out.st.c0
        have p1 : w2.cell? ⟨ob, 1, none⟩ = some (.slice OA no ocap) := HF2.out.st.c1
        have p2 : w2.cell? ⟨ob, 2, none⟩ = some (.slice MA nm_ mcap) := HF2.out.st.c2
        have k0 : w2.cell? ⟨cb, 0, none⟩ = some (.int .i64 c.kind) := HF2.out.cB.cell 0
        have k1 : w2.cell? ⟨cb, 1, none⟩ = some (.int .i64 c.core) := HF2.out.cB.cell 1
        have k2 : w2.cell? ⟨cb, 2, none⟩ = some (.int .i64 c.fd) := HF2.out.cB.cell 2
        have k3 : w2.cell? ⟨cb, 3, none⟩ = some (.int .i64 c.off) := HF2.out.cB.cell 3
        have k4 : w2.cell? ⟨cb, 4, none⟩ = some (.int .i64 c.num) := HF2.out.cB.cell 4
        have k5 : w2.cell? ⟨cb, 5, none⟩ = some (.string c.path) := HF2.out.cB.cell 5
        have k6 : w2.cell? ⟨cb, 6, none⟩ = some (.string c.path2) := HF2.out.cB.cell 6
        have k7 : w2.cell? ⟨cb, 7, none⟩ = some (.string c.data) := HF2.out.cB.cell 7
        have e3 : (c.kind == 3) = false := by rw [beq_eq_false_iff_ne]; exact N3.out
        have e4 : (c.kind == 4) = false := by rw [beq_eq_false_iff_ne]; exact N4.out
        have e5 : (c.kind == 5) = false := by rw [beq_eq_false_iff_ne]; exact N5.out
        have e6 : (c.kind == 6) = false := by rw [beq_eq_false_iff_ne]; exact N6.out
        have e7 : (c.kind == 7) = false := by rw [beq_eq_false_iff_ne]; exact N7.out
        go_wp2_with (go_at_call 94; refine (fail2 _ _).mono ?_; rintro e wz ⟨rfl, hBz⟩; have HZ := Lib.hid (HF2.out.below hBz); have r0 : wz.cell? ⟨rb, 0, none⟩ = some (.int .i64 0) := HZ.out.rB.cell 0; have l0 := HZ.out.rB.frozen 0; have r1 : wz.cell? ⟨rb, 1, none⟩ = some (.int .i64 0) := HZ.out.rB.cell 1; have l1 := HZ.out.rB.frozen 1; have r2 : wz.cell? ⟨rb, 2, none⟩ = some (.int .i64 0) := HZ.out.rB.cell 2; have l2 := HZ.out.rB.frozen 2; have r3 : wz.cell? ⟨rb, 3, none⟩ = some (.bool false) := HZ.out.rB.cell 3; have l3 := HZ.out.rB.frozen 3; have r4 : wz.cell? ⟨rb, 4, none⟩ = some (.string ⟨#[]⟩) := HZ.out.rB.cell 4; have l4 := HZ.out.rB.frozen 4; have r5 : wz.cell? ⟨rb, 5, none⟩ = some (.slice none 0 0) := HZ.out.rB.cell 5; have l5 := HZ.out.rB.frozen 5; have HBZ := Lib.hid hBz; clear hBz)
        refine bodyPost_ret (v := .agg #[.int .i64 0, .int .i64 0, .int .i64 0, .bool false, .string ⟨#[]⟩, .slice none 0 0]) ?_ rfl ⟨⟨0, _, _, _, _, _, _, _, rfl, fun _ => ⟨_, _, _, _, _, HI.out, HZ.out.st.set6 HZ.out.rB _ _ _ _ _ _⟩⟩, Bk.set6 (HB2.out.trans (HBZ.out.bk hbw2)) HZ.out.rb_le (by have := HRB.out; omega) _ _ _ _ _ _⟩
        simp [results, Try.results97, go_sem, r0, r1, r2, r3, r4, r5]
end Go.Proofs.Ytenlffhoinialaa
end

