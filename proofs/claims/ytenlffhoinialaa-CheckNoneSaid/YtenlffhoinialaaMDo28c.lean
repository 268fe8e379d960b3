/- The document's byFd, Close. (Printed by gen_do28.py.) -/
import Derived.Test.YtenlffhoinialaaMDoD
import Derived.Test.YtenlffhoinialaaMDo21
import Derived.Lib.MinMax
namespace Go.Proofs.Ytenlffhoinialaa
open Go.RowKit
set_option maxHeartbeats 16000000
attribute [local go_sem ↓] Go.wp_at_zero Go.wp_at_succ
theorem closeS_in {c f : Int} {T : List (Int × Int × Int)} {e : Int × Int × Int} (h : (e.1 == c && e.2.1 == f) = true) : (T ++ [e]).filter (fun o => !(o.1 == c && o.2.1 == f)) = T.filter (fun o => !(o.1 == c && o.2.1 == f)) := by
  rw [List.filter_append]
  simp only [List.filter_cons, h, Bool.not_true, List.filter_nil]
  simp
theorem closeS_out {c f : Int} {T : List (Int × Int × Int)} {e : Int × Int × Int} (h : (e.1 == c && e.2.1 == f) = false) : (T ++ [e]).filter (fun o => !(o.1 == c && o.2.1 == f)) = T.filter (fun o => !(o.1 == c && o.2.1 == f)) ++ [e] := by
  rw [List.filter_append]
  congr 1
  simp only [List.filter_cons, h]
  rfl
theorem meas_dec {k no : Nat} (h : k < no) : no - ((k : Int) + 1).toNat < no - (k : Int).toNat := by omega
set_option maxRecDepth 1000000 in
theorem byFd_c {w : World} {base ob : Nat} {iv ov mv : Value} {ev : Nat → Value} {S : St} (hT : StT w base ob iv ov mv ev S) (hbw : base ≤ w.heap.size) (hI : Inv S) (c : CallD) (hk : c.kind = 3) :
    Calls Try.prog 97 #[.pointer (some ⟨ob, 0, none⟩), .agg #[.int .i64 c.kind, .int .i64 c.core, .int .i64 c.fd, .int .i64 c.off, .int .i64 c.num, .string c.path, .string c.path2, .string c.data]] w fun e w' => MutR base ob w' e ∧ Bk base w w' := by
  have HKK := Lib.hid hk
  clear hk
  obtain ⟨d0_, hd, hx0, hx1, hx2⟩ := info_parts info_dsc3
  obtain ⟨A, cap, rfl⟩ := hT.row.ino.at'.form
  obtain ⟨OA, ocap, rfl⟩ := hT.row.opn.at'.form
  obtain ⟨MA, mcap, rfl⟩ := hT.row.mad.at'.form
  have hni := hI.ni
  have HI := Lib.hid hI
  have HF0 := Lib.hid (Fr.lay hT hbw c)
  have HBL := Lib.hid (Fr.lay_below w (.cells #[.int .i64 c.kind, .int .i64 c.core, .int .i64 c.fd, .int .i64 c.off, .int .i64 c.num, .string c.path, .string c.path2, .string c.data] 51) (.cells #[.int .i64 0, .int .i64 0, .int .i64 0, .bool false, .string ⟨#[]⟩, .slice none 0 0] 47))
  obtain ⟨n, hnn⟩ : ∃ n, S.inodes.length = n := ⟨_, rfl⟩
  obtain ⟨no, hno⟩ : ∃ n, S.opens.length = n := ⟨_, rfl⟩
  obtain ⟨nm_, hnm⟩ : ∃ n, S.made.length = n := ⟨_, rfl⟩
  have HNN := Lib.hid hnn
  have HNO := Lib.hid hno
  have HNM := Lib.hid hnm
  rw [hnn, hno, hnm] at HF0
  rw [hnn] at hni
  clear hT hI hnn hno hnm
  go_enter Try.func97, Try.ntmps97
  go_upto_region 1 with (fail)
  obtain ⟨cb, hcb⟩ : ∃ x, x = w.heap.size := ⟨_, rfl⟩
  have HCB := Lib.hid hcb
  obtain ⟨rb, hrb⟩ : ∃ x, x = w.heap.size + 1 := ⟨_, rfl⟩
  have HRB := Lib.hid hrb
  rw [← hrb, ← hcb] at HF0
  rw [← hrb, ← hcb]
  clear hcb hrb
  generalize (w.alloc (.cells #[.int .i64 c.kind, .int .i64 c.core, .int .i64 c.fd, .int .i64 c.off, .int .i64 c.num, .string c.path, .string c.path2, .string c.data] 51)).alloc (.cells #[.int .i64 0, .int .i64 0, .int .i64 0, .bool false, .string ⟨#[]⟩, .slice none 0 0] 47) = w0 at *
  have HB0 := Lib.hid (HBL.out.bk hbw)
  have hbw0 : base ≤ w0.heap.size := by have := HBL.out.size; omega
  clear HBL
  have HFD := Lib.hid (Fd_calls (HF0.out.st.stm.keep (below_drew1 w0)) HI.out.small.no c.core c.fd)
  obtain ⟨num, hnum⟩ : ∃ x, fdF S c.core c.fd = x := ⟨_, rfl⟩
  have HNU := Lib.hid hnum
  rw [hnum] at HFD
  clear hnum
  have p0 : w0.cell? ⟨ob, 0, none⟩ = some (.slice A n cap) := HF0.out.st.c0
  have p1 : w0.cell? ⟨ob, 1, none⟩ = some (.slice OA no ocap) := HF0.out.st.c1
  have p2 : w0.cell? ⟨ob, 2, none⟩ = some (.slice MA nm_ mcap) := HF0.out.st.c2
  have k1 : w0.cell? ⟨cb, 1, none⟩ = some (.int .i64 c.core) := HF0.out.cB.cell 1
  have k2 : w0.cell? ⟨cb, 2, none⟩ = some (.int .i64 c.fd) := HF0.out.cB.cell 2
  go_cut [5] (fun s wx => s = .int .i64 num ∧ Below w0.heap.size w0 wx)
  case first =>
    refine wp_region_held_drew (S := fun w' => (w'.cell? ⟨ob, 0, none⟩ = some (.slice A n cap) ∧ w'.cell? ⟨ob, 1, none⟩ = some (.slice OA no ocap) ∧ w'.cell? ⟨ob, 2, none⟩ = some (.slice MA nm_ mcap) ∧ w'.cell? ⟨cb, 1, none⟩ = some (.int .i64 c.core) ∧ w'.cell? ⟨cb, 2, none⟩ = some (.int .i64 c.fd))) (by kernel_rfl) (⟨p0, p1, p2, k1, k2⟩) (fun hHeld => ?_)
    refine wpAnyH_take (i := 0) (oi := ⟨some 11, _, _, _, _, _⟩) (v := .pointer (some ⟨ob, 0, none⟩)) rfl (by kernel_rfl) (by kernel_rfl) (by kernel_rfl) (fun _ _ _ h => h) (Or.inl ⟨by kernel_rfl, fun w hSw => by go_simp⟩) (by assumption) ?_
    simp only [Act.put, lTA, lC0, lCS]
    refine wpAnyH_take (i := 1) (oi := ⟨some 12, _, _, _, _, _⟩) (v := .pointer (some ⟨ob, 0, none⟩)) rfl (by kernel_rfl) (by kernel_rfl) (by kernel_rfl) (fun _ _ _ h => h) (Or.inl ⟨by kernel_rfl, fun w hSw => by go_simp⟩) (by assumption) ?_
    simp only [Act.put, lTA, lC0, lCS]
    refine wpAnyH_take (i := 2) (oi := ⟨some 13, _, _, _, _, _⟩) (v := .agg #[.slice A n cap, .slice OA no ocap, .slice MA nm_ mcap]) rfl (by kernel_rfl) (by kernel_rfl) (by kernel_rfl) (fun _ _ _ h => h) (Or.inl ⟨by kernel_rfl, fun w hSw => by go_simp⟩) (by assumption) ?_
    simp only [Act.put, lTA, lC0, lCS]
    refine wpAnyH_take (i := 3) (oi := ⟨some 14, _, _, _, _, _⟩) (v := .pointer (some ⟨cb, 1, none⟩)) rfl (by kernel_rfl) (by kernel_rfl) (by kernel_rfl) (fun _ _ _ h => h) (Or.inl ⟨by kernel_rfl, fun w hSw => by go_simp⟩) (by assumption) ?_
    simp only [Act.put, lTA, lC0, lCS]
    refine wpAnyH_take (i := 4) (oi := ⟨some 15, _, _, _, _, _⟩) (v := .int .i64 c.core) rfl (by kernel_rfl) (by kernel_rfl) (by kernel_rfl) (fun _ _ _ h => h) (Or.inl ⟨by kernel_rfl, fun w hSw => by go_simp⟩) (by assumption) ?_
    simp only [Act.put, lTA, lC0, lCS]
    refine wpAnyH_take (i := 5) (oi := ⟨some 16, _, _, _, _, _⟩) (v := .pointer (some ⟨cb, 2, none⟩)) rfl (by kernel_rfl) (by kernel_rfl) (by kernel_rfl) (fun _ _ _ h => h) (Or.inl ⟨by kernel_rfl, fun w hSw => by go_simp⟩) (by assumption) ?_
    simp only [Act.put, lTA, lC0, lCS]
    refine wpAnyH_take (i := 6) (oi := ⟨some 17, _, _, _, _, _⟩) (v := .int .i64 c.fd) rfl (by kernel_rfl) (by kernel_rfl) (by kernel_rfl) (fun _ _ _ h => h) (Or.inl ⟨by kernel_rfl, fun w hSw => by go_simp⟩) (by assumption) ?_
    simp only [Act.put, lTA, lC0, lCS]
    refine wpAnyH_ready (rs := [7]) (by kernel_rfl) (by simp) ?_
    refine AllReadyH.cons rfl (fun K hK => ?_) AllReadyH.nil
    go_simp
    refine HFD.out.mono ?_
    rintro e w2 ⟨rfl, hB2⟩
    show K _ _
    refine hK.out _ _ (⟨(hB2.cell (World.block_lt_of_cell? _ _ hHeld.1)).trans hHeld.1, (hB2.cell (World.block_lt_of_cell? _ _ hHeld.2.1)).trans hHeld.2.1, (hB2.cell (World.block_lt_of_cell? _ _ hHeld.2.2.1)).trans hHeld.2.2.1, (hB2.cell (World.block_lt_of_cell? _ _ hHeld.2.2.2.1)).trans hHeld.2.2.2.1, (hB2.cell (World.block_lt_of_cell? _ _ hHeld.2.2.2.2)).trans hHeld.2.2.2.2⟩) (fun hHeld => ?_)
    clear hK K
    refine wpAnyH_take (i := 8) (oi := ⟨some 5, _, _, _, _, _⟩) (v := .int .i64 num) rfl (by kernel_rfl) (by kernel_rfl) (by kernel_rfl) (fun _ _ _ h => h) (Or.inl ⟨by kernel_rfl, fun w hSw => by go_simp⟩) (by assumption) ?_
    simp only [Act.put, lTA, lC0, lCS]
    refine wpAnyH_done (by kernel_rfl) ?_ _
    go_wp2_with (fail)
    go_meet
    case rel => exact ⟨rfl, (below_drew1 w0).trans hB2⟩
  case rest =>
    obtain ⟨rfl, hbc⟩ := hcut
    have HF1 := Lib.hid (HF0.out.below hbc)
    have HB1 := Lib.hid (HB0.out.trans (hbc.bk hbw0))
    obtain ⟨w1, hw1⟩ : ∃ x : World, x = wc := ⟨_, rfl⟩
    have hbw1 : base ≤ w1.heap.size := by rw [hw1]; exact Nat.le_trans hbw0 hbc.size
    subst hw1
    clear p0 p1 p2 k1 k2 hbc HF0 HB0 hbw0 HFD
    by_cases hn0 : num = 0
    · have hn1 : (num == 0) = true := by rw [hn0]; rfl
      clear hn0
      go_wp2_with (go_at_call 94; refine (fail2 _ _).mono ?_; rintro e wz ⟨rfl, hBz⟩; have HZ := Lib.hid (HF1.out.below hBz); have r0 : wz.cell? ⟨rb, 0, none⟩ = some (.int .i64 0) := HZ.out.rB.cell 0; have l0 := HZ.out.rB.frozen 0; have r1 : wz.cell? ⟨rb, 1, none⟩ = some (.int .i64 0) := HZ.out.rB.cell 1; have l1 := HZ.out.rB.frozen 1; have r2 : wz.cell? ⟨rb, 2, none⟩ = some (.int .i64 0) := HZ.out.rB.cell 2; have l2 := HZ.out.rB.frozen 2; have r3 : wz.cell? ⟨rb, 3, none⟩ = some (.bool false) := HZ.out.rB.cell 3; have l3 := HZ.out.rB.frozen 3; have r4 : wz.cell? ⟨rb, 4, none⟩ = some (.string ⟨#[]⟩) := HZ.out.rB.cell 4; have l4 := HZ.out.rB.frozen 4; have r5 : wz.cell? ⟨rb, 5, none⟩ = some (.slice none 0 0) := HZ.out.rB.cell 5; have l5 := HZ.out.rB.frozen 5; have HBZ := Lib.hid hBz; clear hBz)
      refine bodyPost_ret (v := .agg #[.int .i64 4, .int .i64 0, .int .i64 0, .bool false, .string ⟨#[]⟩, .slice none 0 0]) ?_ rfl ⟨⟨4, _, _, _, _, _, _, _, rfl, fun h => absurd h (by decide)⟩, Bk.set6 (HB1.out.trans (HBZ.out.bk hbw1)) HZ.out.rb_le (by have := HRB.out; omega) _ _ _ _ _ _⟩
      simp [results, Try.results97, go_sem, r0, r1, r2, r3, r4, r5]
    · have hn1 : (num == 0) = false := by rw [beq_eq_false_iff_ne]; exact hn0
      obtain ⟨o, ho, ho1, ho2, ho3⟩ := fd_some (S := S) (co := c.core) (f := c.fd) (by rw [HNU.out]; exact hn0)
      rw [HNU.out] at ho3
      have HCLO := Lib.hid (show InvB (closeS S c.core c.fd) num by have := HI.out.close ho; rwa [ho1, ho2, ho3] at this)
      have HFI := Lib.hid (show ∃ y ∈ S.inodes, y.num = num ∧ y.dir = false by
        obtain ⟨-, -, -, -, y, hy, hy1, hy2⟩ := HI.out.ok o ho
        exact ⟨y, hy, by rw [hy1, ho3], hy2⟩)
      obtain ⟨i, hha⟩ : Has S num := by
        obtain ⟨y, hy, hy1, -⟩ := HFI.out
        rw [← hy1]
        exact HI.out.has_mem hy
      have HHA := Lib.hid hha
      have hil : i < n := by have := hha.1; rwa [HNN.out] at this
      have hil1 : (i : Int) < (n : Int) := by omega
      have hil2 : (0 : Int) ≤ (i : Int) := by omega
      have ei : IntKind.i64.wrap (i : Int) = (i : Int) := IntWalk.i64_in _ (by omega)
      have HCA := Lib.hid (by have := At_calls (HF1.out.st.stm.keep (below_drew1 w1)) (by rw [HNN.out]; omega) num; rwa [hha.2.1] at this)
      obtain ⟨-, -, ig, ioff, rfl, hcell⟩ := (show RowAt w1 (.slice A n cap) n 4 (inoC S ev) by have := HF1.out.st.stm.ino; rwa [HNN.out] at this).at_ hil
      have HQ3 := Lib.hid (show w1.cell? ⟨ig, ioff + i * 4 + 3, none⟩ = some (.string (S.dat i)) from hcell 3 (by omega))
      have HDL := Lib.hid (show (S.dat i).size ≤ 256 from HI.out.dat _ HHA.out.mem.1)
      obtain ⟨dat, hdt⟩ : ∃ x, S.dat i = x := ⟨_, rfl⟩
      have HDT := Lib.hid hdt
      rw [hdt] at HQ3 HDL
      have p0 : w1.cell? ⟨ob, 0, none⟩ = some (.slice (some ⟨ig, ioff, none⟩) n cap) := HF1.out.st.c0
      have p1 : w1.cell? ⟨ob, 1, none⟩ = some (.slice OA no ocap) := HF1.out.st.c1
      have p2 : w1.cell? ⟨ob, 2, none⟩ = some (.slice MA nm_ mcap) := HF1.out.st.c2
      clear ho ho1 ho2 ho3 hha hcell hn0 hdt
      go_upto_region 4 with (fail)
      go_cut [6] (fun s wx => s = .pointer (some ⟨ig, ioff + i * 4, none⟩) ∧ Below w1.heap.size w1 wx)
      case first =>
        refine wp_region_held_drew (S := fun w' => (w'.cell? ⟨ob, 0, none⟩ = some (.slice (some ⟨ig, ioff, none⟩) n cap) ∧ w'.cell? ⟨ob, 1, none⟩ = some (.slice OA no ocap) ∧ w'.cell? ⟨ob, 2, none⟩ = some (.slice MA nm_ mcap))) (by kernel_rfl) (⟨p0, p1, p2⟩) (fun hHeld => ?_)
        refine wpAnyH_take (i := 0) (oi := ⟨some 22, _, _, _, _, _⟩) (v := .pointer (some ⟨ob, 0, none⟩)) rfl (by kernel_rfl) (by kernel_rfl) (by kernel_rfl) (fun _ _ _ h => h) (Or.inl ⟨by kernel_rfl, fun w hSw => by go_simp⟩) (by assumption) ?_
        simp only [Act.put, lTA, lC0, lCS]
        refine wpAnyH_take (i := 1) (oi := ⟨some 23, _, _, _, _, _⟩) (v := .pointer (some ⟨ob, 0, none⟩)) rfl (by kernel_rfl) (by kernel_rfl) (by kernel_rfl) (fun _ _ _ h => h) (Or.inl ⟨by kernel_rfl, fun w hSw => by go_simp⟩) (by assumption) ?_
        simp only [Act.put, lTA, lC0, lCS]
        refine wpAnyH_take (i := 2) (oi := ⟨some 24, _, _, _, _, _⟩) (v := .pointer (some ⟨ob, 0, none⟩)) rfl (by kernel_rfl) (by kernel_rfl) (by kernel_rfl) (fun _ _ _ h => h) (Or.inl ⟨by kernel_rfl, fun w hSw => by go_simp⟩) (by assumption) ?_
        simp only [Act.put, lTA, lC0, lCS]
        refine wpAnyH_take (i := 3) (oi := ⟨some 25, _, _, _, _, _⟩) (v := .slice (some ⟨ig, ioff, none⟩) n cap) rfl (by kernel_rfl) (by kernel_rfl) (by kernel_rfl) (fun _ _ _ h => h) (Or.inl ⟨by kernel_rfl, fun w hSw => by go_simp⟩) (by assumption) ?_
        simp only [Act.put, lTA, lC0, lCS]
        refine wpAnyH_take (i := 4) (oi := ⟨some 26, _, _, _, _, _⟩) (v := .pointer (some ⟨ob, 0, none⟩)) rfl (by kernel_rfl) (by kernel_rfl) (by kernel_rfl) (fun _ _ _ h => h) (Or.inl ⟨by kernel_rfl, fun w hSw => by go_simp⟩) (by assumption) ?_
        simp only [Act.put, lTA, lC0, lCS]
        refine wpAnyH_take (i := 5) (oi := ⟨some 27, _, _, _, _, _⟩) (v := .pointer (some ⟨ob, 0, none⟩)) rfl (by kernel_rfl) (by kernel_rfl) (by kernel_rfl) (fun _ _ _ h => h) (Or.inl ⟨by kernel_rfl, fun w hSw => by go_simp⟩) (by assumption) ?_
        simp only [Act.put, lTA, lC0, lCS]
        refine wpAnyH_take (i := 6) (oi := ⟨some 28, _, _, _, _, _⟩) (v := .agg #[.slice (some ⟨ig, ioff, none⟩) n cap, .slice OA no ocap, .slice MA nm_ mcap]) rfl (by kernel_rfl) (by kernel_rfl) (by kernel_rfl) (fun _ _ _ h => h) (Or.inl ⟨by kernel_rfl, fun w hSw => by go_simp⟩) (by assumption) ?_
        simp only [Act.put, lTA, lC0, lCS]
        refine wpAnyH_take (i := 7) (oi := ⟨some 29, _, _, _, _, _⟩) (v := .int .i64 num) rfl (by kernel_rfl) (by kernel_rfl) (by kernel_rfl) (fun _ _ _ h => h) (Or.inl ⟨by kernel_rfl, fun w hSw => by go_simp⟩) (by assumption) ?_
        simp only [Act.put, lTA, lC0, lCS]
        refine wpAnyH_ready (rs := [8]) (by kernel_rfl) (by simp) ?_
        refine AllReadyH.cons rfl (fun K hK => ?_) AllReadyH.nil
        go_simp
        refine HCA.out.mono ?_
        rintro e w3 ⟨rfl, hB3⟩
        show K _ _
        refine hK.out _ _ (⟨(hB3.cell (World.block_lt_of_cell? _ _ hHeld.1)).trans hHeld.1, (hB3.cell (World.block_lt_of_cell? _ _ hHeld.2.1)).trans hHeld.2.1, (hB3.cell (World.block_lt_of_cell? _ _ hHeld.2.2)).trans hHeld.2.2⟩) (fun hHeld => ?_)
        clear hK K
        refine wpAnyH_take (i := 9) (oi := ⟨some 31, _, _, _, _, _⟩) (v := .pointer (some ⟨ig, ioff + i * 4, none⟩)) rfl (by kernel_rfl) (by kernel_rfl) (by kernel_rfl) (fun _ _ _ h => h) (Or.inl ⟨by kernel_rfl, fun w hSw => by go_simp⟩) (by assumption) ?_
        simp only [Act.put, lTA, lC0, lCS]
        refine wpAnyH_take (i := 10) (oi := ⟨some 6, _, _, _, _, _⟩) (v := .pointer (some ⟨ig, ioff + i * 4, none⟩)) rfl (by kernel_rfl) (by kernel_rfl) (by kernel_rfl) (fun _ _ _ h => h) (Or.inl ⟨by kernel_rfl, fun w hSw => by go_simp⟩) (by assumption) ?_
        simp only [Act.put, lTA, lC0, lCS]
        refine wpAnyH_done (by kernel_rfl) ?_ _
        go_wp2_with (fail)
        go_meet
        case rel => exact ⟨rfl, (below_drew1 w1).trans hB3⟩
      case rest =>
        obtain ⟨rfl, hbc⟩ := hcut
        have HF2 := Lib.hid (HF1.out.below hbc)
        have HB2 := Lib.hid (HB1.out.trans (hbc.bk hbw1))
        have q3 : wc.cell? ⟨ig, ioff + i * 4 + 3, none⟩ = some (.string dat) := (hbc.cell (World.block_lt_of_cell? _ _ HQ3.out)).trans HQ3.out
        obtain ⟨w2, hw2⟩ : ∃ x : World, x = wc := ⟨_, rfl⟩
        have hbw2 : base ≤ w2.heap.size := by rw [hw2]; exact Nat.le_trans hbw1 hbc.size
        subst hw2
        clear p0 p1 p2 hbc HF1 HB1 hbw1 HCA HQ3
        have p0 : w2.cell? ⟨ob, 0, none⟩ = some (.slice (some ⟨ig, ioff, none⟩) n cap) := HF2.out.st.c0
        have p1 : w2.cell? ⟨ob, 1, none⟩ = some (.slice OA no ocap) := HF2.out.st.c1
        have p2 : w2.cell? ⟨ob, 2, none⟩ = some (.slice MA nm_ mcap) := HF2.out.st.c2
        have k0 : w2.cell? ⟨cb, 0, none⟩ = some (.int .i64 c.kind) := HF2.out.cB.cell 0
        have k1 : w2.cell? ⟨cb, 1, none⟩ = some (.int .i64 c.core) := HF2.out.cB.cell 1
        have k2 : w2.cell? ⟨cb, 2, none⟩ = some (.int .i64 c.fd) := HF2.out.cB.cell 2
        have k3 : w2.cell? ⟨cb, 3, none⟩ = some (.int .i64 c.off) := HF2.out.cB.cell 3
        have k4 : w2.cell? ⟨cb, 4, none⟩ = some (.int .i64 c.num) := HF2.out.cB.cell 4
        have k5 : w2.cell? ⟨cb, 5, none⟩ = some (.string c.path) := HF2.out.cB.cell 5
        have k6 : w2.cell? ⟨cb, 6, none⟩ = some (.string c.path2) := HF2.out.cB.cell 6
        have k7 : w2.cell? ⟨cb, 7, none⟩ = some (.string c.data) := HF2.out.cB.cell 7
        have e3 : (c.kind == 3) = true := by rw [HKK.out]; rfl
        obtain ⟨q, hq_⟩ : ∃ q, q = w2.heap.size := ⟨_, rfl⟩
        have HQ := Lib.hid hq_
        clear hq_
        go_wp2_with (fail)
        go_loopw [7, 8] (fun v i' wr => ∃ (k : Nat) (L : List (Int × Int × Int)), i' = .int .i64 k ∧ k ≤ no ∧ L = (S.opens.take k).filter (fun o => !(o.1 == c.core && o.2.1 == c.fd)) ∧ (∃ A cap, v = .slice A L.length cap) ∧ wr.ownsRow q 60 3 v L.length (L.flatMap encD) ∧ Below q w2 wr) (fun _ i' _ => no - (intOf i').toNat)
        case atStart => exact ⟨0, [], rfl, by omega, rfl, ⟨_, _, rfl⟩, World.ownsRow_nil _ _ _ _, by rw [HQ.out]; exact Below.refl _ _⟩
        case round =>
          obtain ⟨k, L, rfl, hk, hpr, ⟨VA, vc, rfl⟩, hown, hb⟩ := hrel
          have HPR := Lib.hid hpr
          have HO := Lib.hid hown
          have HB := Lib.hid hb
          have HFr := Lib.hid (HF2.out.below (by rw [← HQ.out]; exact hb))
          have hno1 : no ≤ 1000 := by have := HI.out.no; rw [HNO.out] at this; omega
          have HLL := Lib.hid (show L.length ≤ 1001 by
            rw [hpr]
            have h1 := List.length_filter_le (fun o : Int × Int × Int => !(o.1 == c.core && o.2.1 == c.fd)) (S.opens.take k)
            have h2 := List.length_take_le' k S.opens
            have h3 := HI.out.no
            omega)
          clear hpr hown hb p0 p1 p2 q3 k0 k1 k2 k3 k4 k5 k6 k7
          have p0 : wr.cell? ⟨ob, 0, none⟩ = some (.slice (some ⟨ig, ioff, none⟩) n cap) := HFr.out.st.c0
          have p1 : wr.cell? ⟨ob, 1, none⟩ = some (.slice OA no ocap) := HFr.out.st.c1
          have p2 : wr.cell? ⟨ob, 2, none⟩ = some (.slice MA nm_ mcap) := HFr.out.st.c2
          have k1 : wr.cell? ⟨cb, 1, none⟩ = some (.int .i64 c.core) := HFr.out.cB.cell 1
          have k2 : wr.cell? ⟨cb, 2, none⟩ = some (.int .i64 c.fd) := HFr.out.cB.cell 2
          by_cases hq : k < no
          · have hq1 : (k : Int) < (no : Int) := by omega
            have hkl : k < S.opens.length := by rw [HNO.out]; exact hq
            obtain ⟨-, hcap, og, ooff, rfl, hcell⟩ := (show RowAt wr (.slice OA no ocap) no 3 (opnC S) by have := HFr.out.st.stm.opn; rwa [HNO.out] at this).at_ hq
            have y0 : wr.cell? ⟨og, ooff + k * 3, none⟩ = some (.int .i64 (S.oc k)) := hcell 0 (by omega)
            have y1 : wr.cell? ⟨og, ooff + k * 3 + 1, none⟩ = some (.int .i64 (S.of k)) := hcell 1 (by omega)
            have y2 : wr.cell? ⟨og, ooff + k * 3 + 2, none⟩ = some (.int .i64 (S.on k)) := hcell 2 (by omega)
            have HTK := Lib.hid (show S.opens.take k ++ [(S.oc k, S.of k, S.on k)] = S.opens.take (k + 1) by rw [List.take_succ_eq_append_getElem hkl, show (S.oc k, S.of k, S.on k) = S.opens.getD k (0, 0, 0) from rfl, getD_lt hkl])
            clear hcell hkl
            generalize S.oc k = oc at *
            generalize S.of k = of_ at *
            generalize S.on k = on at *
            go_upto_region 11 with (fail)
            obtain ⟨wo, hwo⟩ : ∃ x : World, x = wr := ⟨_, rfl⟩
            subst hwo
            obtain ⟨kb, hkb⟩ : ∃ b, (!(oc == c.core && of_ == c.fd)) = b := ⟨_, rfl⟩
            have HKB := Lib.hid hkb
            go_cut [68] (fun s wx => s = .bool kb ∧ Below wo.heap.size wo wx)
            case first =>
              by_cases h1 : oc = c.core
              · have h1' : (oc == c.core) = true := by rw [h1]; exact beq_self_eq_true _
                have h1'' : (oc != c.core) = false := by simp [h1]
                have h2' : (of_ != c.fd) = kb := by rw [← hkb, h1']; simp [bne]
                clear hkb h1
                go_quiet (fail)
                go_wp2_with (fail)
                go_meet
                case rel => exact ⟨rfl, below_drewN wo _⟩
              · have h1'' : (oc != c.core) = true := by simpa using h1
                obtain rfl : true = kb := by rw [← hkb, show (oc == c.core) = false by rw [beq_eq_false_iff_ne]; exact h1]; rfl
                clear hkb h1
                go_quiet (fail)
                go_wp2_with (fail)
                go_meet
                case rel => exact ⟨rfl, below_drewN wo _⟩
            case rest =>
              obtain ⟨rfl, hbc⟩ := hcut
              have HBc := Lib.hid (HB.out.trans (hbc.mono (by rw [HQ.out]; exact HB.out.size)))
              have HOc := Lib.hid (own_below HO.out hbc)
              have HFc := Lib.hid (HFr.out.below hbc)
              have y0 : wc.cell? ⟨og, ooff + k * 3, none⟩ = some (.int .i64 oc) := (hbc.cell (World.block_lt_of_cell? _ _ y0)).trans y0
              have y1 : wc.cell? ⟨og, ooff + k * 3 + 1, none⟩ = some (.int .i64 of_) := (hbc.cell (World.block_lt_of_cell? _ _ y1)).trans y1
              have y2 : wc.cell? ⟨og, ooff + k * 3 + 2, none⟩ = some (.int .i64 on) := (hbc.cell (World.block_lt_of_cell? _ _ y2)).trans y2
              clear hkb hbc HO HFr p0 p1 p2 k1 k2
              have p0 : wc.cell? ⟨ob, 0, none⟩ = some (.slice (some ⟨ig, ioff, none⟩) n cap) := HFc.out.st.c0
              have p1 : wc.cell? ⟨ob, 1, none⟩ = some (.slice (some ⟨og, ooff, none⟩) no ocap) := HFc.out.st.c1
              have p2 : wc.cell? ⟨ob, 2, none⟩ = some (.slice MA nm_ mcap) := HFc.out.st.c2
              have k1 : wc.cell? ⟨cb, 1, none⟩ = some (.int .i64 c.core) := HFc.out.cB.cell 1
              have k2 : wc.cell? ⟨cb, 2, none⟩ = some (.int .i64 c.fd) := HFc.out.cB.cell 2
              rcases bool_tf kb with rfl | rfl
              · have HR := Lib.hid (show L ++ [(oc, of_, on)] = (S.opens.take (k + 1)).filter (fun o => !(o.1 == c.core && o.2.1 == c.fd)) by rw [← HTK.out, closeS_out (by have := HKB.out; rwa [Bool.not_eq_true'] at this), HPR.out])
                have HENC := Lib.hid (show encD (oc, of_, on) = [.int .i64 oc, .int .i64 of_, .int .i64 on] from rfl)
                have HNW := Lib.hid (Blk.new wc 60 #[.int .i64 oc, .int .i64 of_, .int .i64 on])
                have HOW := Lib.hid (own_below HOc.out (below_alloc wc (Obj.cells #[.int .i64 oc, .int .i64 of_, .int .i64 on] 60)))
                have HBW := Lib.hid (HBc.out.trans ((below_alloc wc (Obj.cells #[.int .i64 oc, .int .i64 of_, .int .i64 on] 60)).mono (show q ≤ wc.heap.size by have := HBc.out.size; have := HQ.out; omega)))
                have HQW := Lib.hid (show q ≤ (wc.alloc (Obj.cells #[.int .i64 oc, .int .i64 of_, .int .i64 on] 60)).heap.size by have := HBW.out.size; have := HQ.out; omega)
                go_wp2_with (at_builtin; refine wpList_app (enc := encD) _ rfl (.tmp 69) (.tmp 77) 23 60 rfl d0_ _ 24 Try.underlying23 hd hx0 hx1 hx2 rfl (by decide) q _ L rfl HOW.out (.slice (some ⟨wc.heap.size, 0, none⟩) 1 1) rfl [(oc, of_, on)] (C := fun _ b => [.int .i64 oc, .int .i64 of_, .int .i64 on].getD b (.int .i64 0)) (RowAt.blk HNW.out (Nat.le_refl _) (fun a b ha hb => by (obtain rfl : a = 0 := (by simpa using ha)); rcases (show b = 0 ∨ b = 1 ∨ b = 2 by omega) with rfl | rfl | rfl <;> rfl)) (fun a b ha hb => by (obtain rfl : a = 0 := (by simpa using ha)); (show (encD (oc, of_, on))[b]? = _); (rw [HENC.out]); rcases (show b = 0 ∨ b = 1 ∨ b = 2 by omega) with rfl | rfl | rfl <;> rfl) encD_len (fun x hx u hu => by (obtain rfl : x = (oc, of_, on) := (by simpa using hx)); (rw [HENC.out] at hu); (simp at hu); rcases hu with rfl | rfl | rfl <;> rfl) (by have := HLL.out; simp only [List.length_cons, List.length_nil] at this ⊢; omega) (by decide) HQW.out ?_; intro A6 n6 c6 w6 hn6 hown6 hgrow6; have HN6 := Lib.hid hn6; have HO6 := Lib.hid hown6; have HG6 := Lib.hid hgrow6; clear hn6 hown6 hgrow6)
                have HB6 := Lib.hid (show Below q w2 w6 from HBW.out.trans ⟨HG6.out.os, HG6.out.tape, HG6.out.output, HG6.out.size, fun k' hk' => HG6.out.block k' (by have := HQW.out; omega) (fun e => by have := (HOW.out.lt k' e.symm).1; omega)⟩)
                go_roundw
                case rel => exact ⟨k + 1, _, by go_num, by omega, HR.out, ⟨A6, c6, by rw [HN6.out]⟩, HO6.out, HB6.out⟩
                case measure =>
                  simp only [intOf]
                  exact meas_dec hq
              · have HR := Lib.hid (show L = (S.opens.take (k + 1)).filter (fun o => !(o.1 == c.core && o.2.1 == c.fd)) by rw [← HTK.out, closeS_in (by have := HKB.out; rwa [Bool.not_eq_false'] at this), HPR.out])
                go_wp2_with (fail)
                go_roundw
                case rel => exact ⟨k + 1, L, by go_num, by omega, HR.out, ⟨_, _, rfl⟩, HOc.out, HBc.out⟩
                case measure =>
                  simp only [intOf]
                  exact meas_dec hq
          · obtain rfl : k = no := by omega
            have HLI := Lib.hid (show { S with opens := L } = closeS S c.core c.fd by rw [HPR.out, ← HNO.out, List.take_length]; rfl)
            have hbwr : base ≤ wr.heap.size := by have := HB.out.size; have := HQ.out; omega
            obtain ⟨hf', hc', hK', hT'⟩ := HFr.out.st.put_opn (Below.refl _ _) (L := L) (v := .slice VA L.length vc) (own_base HO.out (by rw [HQ.out]; exact hbw2))
            rw [HLI.out] at hT'
            have HF6 := Lib.hid (Fr.mk hT' (hK'.block HFr.out.cB (by decide) (by decide) (by decide)) (hK'.block HFr.out.rB (by decide) (by decide) (by decide)) HFr.out.rb_le)
            have HB6 := Lib.hid (Bk.mk ((Below.refl base wr).setCell (p := ⟨ob, 1, none⟩) HFr.out.st.ob_le (.slice VA L.length vc)) hK')
            have hbw6 : base ≤ (wr.setCell ⟨ob, 1, none⟩ (.slice VA L.length vc)).heap.size := by simpa [World.setCell] using hbwr
            have HSC := Lib.hid (sweep_calls hT' hbw6 (by show S.inodes.length ≤ 1000; have := HI.out.ni; omega) (fun i => HI.out.small.en i) (by show (List.filter _ S.opens).length ≤ 1000; have h1 := List.length_filter_le (fun o : Int × Int × Int => !(o.1 == c.core && o.2.1 == c.fd)) S.opens; have := HI.out.no; omega) num)
            have HSI := Lib.hid HCLO.out.sweep
            have HBW := Lib.hid (HB2.out.trans (Bk.mk (HB.out.mono (by rw [HQ.out]; exact hbw2)) (Kp.of_below (by rw [← HQ.out]; exact HB.out))))
            clear hK' hT'
            go_wp2_with (first | (go_at_call 125; refine HSC.out.mono ?_; rintro e w7 ⟨rfl, hB8, hK8, iv7, ev7, hT7⟩; have HB8 := Lib.hid (Bk.mk hB8 hK8); have HF7 := Lib.hid (Fr.mk hT7 (hK8.block HF6.out.cB (by decide) (by decide) (by decide)) (hK8.block HF6.out.rB (by decide) (by decide) (by decide)) HF6.out.rb_le); clear hB8 hT7 hK8) | (go_at_call 94; refine (fail2 _ _).mono ?_; rintro e wz ⟨rfl, hBz⟩; have HZ := Lib.hid (HF7.out.below hBz); have r0 : wz.cell? ⟨rb, 0, none⟩ = some (.int .i64 0) := HZ.out.rB.cell 0; have l0 := HZ.out.rB.frozen 0; have r1 : wz.cell? ⟨rb, 1, none⟩ = some (.int .i64 0) := HZ.out.rB.cell 1; have l1 := HZ.out.rB.frozen 1; have r2 : wz.cell? ⟨rb, 2, none⟩ = some (.int .i64 0) := HZ.out.rB.cell 2; have l2 := HZ.out.rB.frozen 2; have r3 : wz.cell? ⟨rb, 3, none⟩ = some (.bool false) := HZ.out.rB.cell 3; have l3 := HZ.out.rB.frozen 3; have r4 : wz.cell? ⟨rb, 4, none⟩ = some (.string ⟨#[]⟩) := HZ.out.rB.cell 4; have l4 := HZ.out.rB.frozen 4; have r5 : wz.cell? ⟨rb, 5, none⟩ = some (.slice none 0 0) := HZ.out.rB.cell 5; have l5 := HZ.out.rB.frozen 5; have HBZ := Lib.hid hBz; clear hBz))
            have hbw7 : base ≤ w7.heap.size := Nat.le_trans hbw6 HB8.out.bel.size
            refine bodyPost_ret (v := .agg #[.int .i64 0, .int .i64 0, .int .i64 0, .bool false, .string ⟨#[]⟩, .slice none 0 0]) ?_ rfl ⟨⟨0, _, _, _, _, _, _, _, rfl, fun _ => ⟨_, _, _, _, _, HSI.out, HZ.out.st.set6 HZ.out.rB _ _ _ _ _ _⟩⟩, Bk.set6 (HBW.out.trans (HB6.out.trans (HB8.out.trans (HBZ.out.bk hbw7)))) HZ.out.rb_le (by have := HRB.out; omega) _ _ _ _ _ _⟩
            simp [results, Try.results97, go_sem, r0, r1, r2, r3, r4, r5]
end Go.Proofs.Ytenlffhoinialaa
