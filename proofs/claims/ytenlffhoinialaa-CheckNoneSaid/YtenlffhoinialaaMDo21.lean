/- The document's opened, the least descriptor wanted. (Printed in part by genact13.py.) -/
import Derived.Test.YtenlffhoinialaaMDo20
namespace Go.Proofs.Ytenlffhoinialaa
open Go.RowKit
set_option maxHeartbeats 2000000
attribute [local go_sem ↓] Go.wp_at_zero Go.wp_at_succ
theorem Inv.on_pos {S : St} (h : Inv S) {k : Nat} (hk : k < S.opens.length) : S.on k ≠ 0 := by
  obtain ⟨-, -, -, -, y, hy, h5, -⟩ := h.ok _ (getD_mem (d := (0, 0, 0)) hk)
  have := h.num_bound hy
  have h6 : y.num = S.on k := h5
  omega
theorem Inv.fd_zero {S : St} (h : Inv S) {co f : Int} (hz : fdF S co f = 0) : ∀ q ∈ S.opens, ¬ (q.1 = co ∧ q.2.1 = f) := by
  rintro q hq ⟨h1, h2⟩
  obtain ⟨k, hk, rfl⟩ := List.getElem_of_mem hq
  unfold fdF at hz
  cases hf : (List.range S.opens.length).find? fun i => S.oc i == co && S.of i == f with
  | none =>
    rw [List.find?_range_eq_none] at hf
    have := hf k hk
    unfold St.oc St.of at this
    rw [getD_lt hk, h1, h2] at this
    simp at this
  | some i =>
    rw [hf] at hz
    have hi : i < S.opens.length := by
      rw [List.find?_range_eq_some] at hf
      simpa using hf.2.1
    exact h.on_pos hi hz
theorem fd_some {S : St} {co f : Int} (hz : fdF S co f ≠ 0) : ∃ o ∈ S.opens, o.1 = co ∧ o.2.1 = f ∧ o.2.2 = fdF S co f := by
  unfold fdF at hz ⊢
  cases hf : (List.range S.opens.length).find? fun i => S.oc i == co && S.of i == f with
  | none => rw [hf] at hz; exact absurd rfl hz
  | some i =>
    rw [List.find?_range_eq_some] at hf
    have hi : i < S.opens.length := by simpa using hf.2.1
    have h1 := hf.1
    unfold St.oc St.of at h1
    rw [getD_lt hi] at h1
    simp at h1
    refine ⟨S.opens[i], List.getElem_mem _, h1.1, h1.2, ?_⟩
    show _ = S.on i
    unfold St.on
    rw [getD_lt hi]
def MutR2 (base ob : Nat) (w' : World) (e : Ending) : Prop := ∃ (code fd num : Int) (dr : Bool) (dat : ByteArray) (nA : Option Addr) (nl nc : Nat) (bv : Bool), e = .returned (.tuple #[.agg #[.int .i64 code, .int .i64 fd, .int .i64 num, .bool dr, .string dat, .slice nA nl nc], .bool bv]) ∧ (code = 0 → ∃ iv ov mv ev S', Inv S' ∧ StT w' base ob iv ov mv ev S')
set_option maxRecDepth 1000000 in
theorem opened_calls {w : World} {base ob : Nat} {iv ov mv : Value} {ev : Nat → Value} {S : St} (hT : StT w base ob iv ov mv ev S) (hbw : base ≤ w.heap.size) (hI : Inv S) (c : CallD) (hco : 0 ≤ c.core ∧ c.core < S.made.length) :
    Calls Try.prog 96 #[.pointer (some ⟨ob, 0, none⟩), .agg #[.int .i64 c.kind, .int .i64 c.core, .int .i64 c.fd, .int .i64 c.off, .int .i64 c.num, .string c.path, .string c.path2, .string c.data], .int .i64 (-1)] w fun e w' => MutR2 base ob w' e ∧ Bk base w w' := by
  obtain ⟨A, cap, rfl⟩ := hT.row.ino.at'.form
  obtain ⟨OA, ocap, rfl⟩ := hT.row.opn.at'.form
  obtain ⟨MA, mcap, rfl⟩ := hT.row.mad.at'.form
  have hni := hI.ni
  have HI := Lib.hid hI
  have HF0 := Lib.hid (Fr.lay hT hbw c)
  have HBL := Lib.hid (Fr.lay_below w (.cells #[.int .i64 c.kind, .int .i64 c.core, .int .i64 c.fd, .int .i64 c.off, .int .i64 c.num, .string c.path, .string c.path2, .string c.data] 51) (.cells #[.int .i64 0, .int .i64 0, .int .i64 0, .bool false, .string ⟨#[]⟩, .slice none 0 0] 47))
  obtain ⟨n, hnn⟩ : ∃ n, S.inodes.length = n := ⟨_, rfl⟩
  obtain ⟨no, hno⟩ : ∃ n, S.opens.length = n := ⟨_, rfl⟩
  obtain ⟨nm_, hnm⟩ : ∃ n, S.made.length = n := ⟨_, rfl⟩
  have HNN := Lib.hid hnn
  have HNO := Lib.hid hno
  have HNM := Lib.hid hnm
  rw [hnn, hno, hnm] at HF0
  rw [hnn] at hni
  clear hT hI hnn hno hnm
  go_enter Try.func96, Try.ntmps96
  go_upto_region 1 with (fail)
  obtain ⟨cb, hcb⟩ : ∃ x, x = w.heap.size := ⟨_, rfl⟩
  have HCB := Lib.hid hcb
  obtain ⟨rb, hrb⟩ : ∃ x, x = w.heap.size + 1 := ⟨_, rfl⟩
  have HRB := Lib.hid hrb
  rw [← hrb, ← hcb] at HF0
  rw [← hrb, ← hcb]
  clear hcb hrb
  generalize (w.alloc (.cells #[.int .i64 c.kind, .int .i64 c.core, .int .i64 c.fd, .int .i64 c.off, .int .i64 c.num, .string c.path, .string c.path2, .string c.data] 51)).alloc (.cells #[.int .i64 0, .int .i64 0, .int .i64 0, .bool false, .string ⟨#[]⟩, .slice none 0 0] 47) = w0 at *
  have HB0 := Lib.hid (HBL.out.bk hbw)
  have hbw0 : base ≤ w0.heap.size := by have := HBL.out.size; omega
  have HCO := Lib.hid hco
  clear HBL hco
  have p0 : w0.cell? ⟨ob, 0, none⟩ = some (.slice A n cap) := HF0.out.st.c0
  have p1 : w0.cell? ⟨ob, 1, none⟩ = some (.slice OA no ocap) := HF0.out.st.c1
  have p2 : w0.cell? ⟨ob, 2, none⟩ = some (.slice MA nm_ mcap) := HF0.out.st.c2
  have k5 : w0.cell? ⟨cb, 5, none⟩ = some (.string c.path) := HF0.out.cB.cell 5
  go_cut [8, 9] (fun s1 s2 wx => ∃ num code, s1 = .int .i64 num ∧ s2 = .int .i64 code ∧ FindR S num code ∧ Below w0.heap.size w0 wx)
  case first =>
    refine wp_region_held_drew (S := fun w' => (w'.cell? ⟨ob, 0, none⟩ = some (.slice A n cap) ∧ w'.cell? ⟨ob, 1, none⟩ = some (.slice OA no ocap) ∧ w'.cell? ⟨ob, 2, none⟩ = some (.slice MA nm_ mcap) ∧ w'.cell? ⟨cb, 5, none⟩ = some (.string c.path))) (by kernel_rfl) (⟨p0, p1, p2, k5⟩) (fun hHeld => ?_)
    refine wpAnyH_take (i := 0) (oi := ⟨some 13, _, _, _, _, _⟩) (v := .pointer (some ⟨ob, 0, none⟩)) rfl (by kernel_rfl) (by kernel_rfl) (by kernel_rfl) (fun _ _ _ h => h) (Or.inl ⟨by kernel_rfl, fun w hSw => by go_simp⟩) (by assumption) ?_
    simp only [Act.put, lTA, lC0, lCS]
    refine wpAnyH_take (i := 1) (oi := ⟨some 14, _, _, _, _, _⟩) (v := .pointer (some ⟨ob, 0, none⟩)) rfl (by kernel_rfl) (by kernel_rfl) (by kernel_rfl) (fun _ _ _ h => h) (Or.inl ⟨by kernel_rfl, fun w hSw => by go_simp⟩) (by assumption) ?_
    simp only [Act.put, lTA, lC0, lCS]
    refine wpAnyH_take (i := 2) (oi := ⟨some 15, _, _, _, _, _⟩) (v := .agg #[.slice A n cap, .slice OA no ocap, .slice MA nm_ mcap]) rfl (by kernel_rfl) (by kernel_rfl) (by kernel_rfl) (fun _ _ _ h => h) (Or.inl ⟨by kernel_rfl, fun w hSw => by go_simp⟩) (by assumption) ?_
    simp only [Act.put, lTA, lC0, lCS]
    refine wpAnyH_take (i := 3) (oi := ⟨some 16, _, _, _, _, _⟩) (v := .pointer (some ⟨cb, 5, none⟩)) rfl (by kernel_rfl) (by kernel_rfl) (by kernel_rfl) (fun _ _ _ h => h) (Or.inl ⟨by kernel_rfl, fun w hSw => by go_simp⟩) (by assumption) ?_
    simp only [Act.put, lTA, lC0, lCS]
    refine wpAnyH_take (i := 4) (oi := ⟨some 17, _, _, _, _, _⟩) (v := .string c.path) rfl (by kernel_rfl) (by kernel_rfl) (by kernel_rfl) (fun _ _ _ h => h) (Or.inl ⟨by kernel_rfl, fun w hSw => by go_simp⟩) (by assumption) ?_
    simp only [Act.put, lTA, lC0, lCS]
    refine wpAnyH_ready (rs := [5]) (by kernel_rfl) (by simp) ?_
    refine AllReadyH.cons rfl (fun K hK => ?_) AllReadyH.nil
    go_simp
    refine (Find_calls (HF0.out.st.stm.keep (below_drew1 w0)) HI.out c.path).mono ?_
    rintro e w2 ⟨num, code, rfl, hfr, hB2⟩
    show K _ _
    refine hK.out _ _ (⟨(hB2.cell (World.block_lt_of_cell? _ _ hHeld.1)).trans hHeld.1, (hB2.cell (World.block_lt_of_cell? _ _ hHeld.2.1)).trans hHeld.2.1, (hB2.cell (World.block_lt_of_cell? _ _ hHeld.2.2.1)).trans hHeld.2.2.1, (hB2.cell (World.block_lt_of_cell? _ _ hHeld.2.2.2)).trans hHeld.2.2.2⟩) (fun hHeld => ?_)
    clear hK K
    refine wpAnyH_take (i := 6) (oi := ⟨some 12, _, _, _, _, _⟩) (v := .tuple #[.int .i64 num, .int .i64 code]) rfl (by kernel_rfl) (by kernel_rfl) (by kernel_rfl) (fun _ _ _ h => h) (Or.inl ⟨by kernel_rfl, fun w hSw => by go_simp⟩) (by assumption) ?_
    simp only [Act.put, lTA, lC0, lCS]
    refine wpAnyH_take (i := 7) (oi := ⟨some 19, _, _, _, _, _⟩) (v := .int .i64 num) rfl (by kernel_rfl) (by kernel_rfl) (by kernel_rfl) (fun _ _ _ h => h) (Or.inl ⟨by kernel_rfl, fun w hSw => by go_simp⟩) (by assumption) ?_
    simp only [Act.put, lTA, lC0, lCS]
    refine wpAnyH_take (i := 8) (oi := ⟨some 20, _, _, _, _, _⟩) (v := .int .i64 code) rfl (by kernel_rfl) (by kernel_rfl) (by kernel_rfl) (fun _ _ _ h => h) (Or.inl ⟨by kernel_rfl, fun w hSw => by go_simp⟩) (by assumption) ?_
    simp only [Act.put, lTA, lC0, lCS]
    refine wpAnyH_take (i := 9) (oi := ⟨some 8, _, _, _, _, _⟩) (v := .int .i64 num) rfl (by kernel_rfl) (by kernel_rfl) (by kernel_rfl) (fun _ _ _ h => h) (Or.inl ⟨by kernel_rfl, fun w hSw => by go_simp⟩) (by assumption) ?_
    simp only [Act.put, lTA, lC0, lCS]
    refine wpAnyH_take (i := 10) (oi := ⟨some 9, _, _, _, _, _⟩) (v := .int .i64 code) rfl (by kernel_rfl) (by kernel_rfl) (by kernel_rfl) (fun _ _ _ h => h) (Or.inl ⟨by kernel_rfl, fun w hSw => by go_simp⟩) (by assumption) ?_
    simp only [Act.put, lTA, lC0, lCS]
    refine wpAnyH_done (by kernel_rfl) ?_ _
    go_wp2_with (fail)
    go_meet
    case rel => exact ⟨_, _, rfl, rfl, hfr, (below_drew1 w0).trans hB2⟩
  case rest =>
    obtain ⟨num, code, rfl, rfl, hfr, hbc⟩ := hcut
    have HFR := Lib.hid hfr
    have HF1 := Lib.hid (HF0.out.below hbc)
    have HB1 := Lib.hid (HB0.out.trans (hbc.bk hbw0))
    obtain ⟨w1, hw1⟩ : ∃ x : World, x = wc := ⟨_, rfl⟩
    have hbw1 : base ≤ w1.heap.size := by rw [hw1]; exact Nat.le_trans hbw0 hbc.size
    subst hw1
    clear p0 p1 p2 k5 hfr hbc HF0 HB0 hbw0
    by_cases hc0 : code = 0
    · subst hc0
      obtain ⟨i, hha⟩ := (HFR.out.resolve_left (fun h => h rfl)).2
      have HHA := Lib.hid hha
      have hil : i < n := by have := hha.1; rwa [HNN.out] at this
      have hil1 : (i : Int) < (n : Int) := by omega
      have hil2 : (0 : Int) ≤ (i : Int) := by omega
      have ei : IntKind.i64.wrap (i : Int) = (i : Int) := IntWalk.i64_in _ (by omega)
      obtain ⟨-, -, ig, ioff, rfl, hcell⟩ := (show RowAt w1 (.slice A n cap) n 4 (inoC S ev) by have := HF1.out.st.stm.ino; rwa [HNN.out] at this).at_ hil
      have q1 : w1.cell? ⟨ig, ioff + i * 4 + 1, none⟩ = some (.bool (S.dir i)) := hcell 1 (by omega)
      have p0 : w1.cell? ⟨ob, 0, none⟩ = some (.slice (some ⟨ig, ioff, none⟩) n cap) := HF1.out.st.c0
      have p1 : w1.cell? ⟨ob, 1, none⟩ = some (.slice OA no ocap) := HF1.out.st.c1
      have p2 : w1.cell? ⟨ob, 2, none⟩ = some (.slice MA nm_ mcap) := HF1.out.st.c2
      have HCA := Lib.hid (by have := At_calls (HF1.out.st.stm.keep (below_drew1 w1)) (by rw [HNN.out]; omega) num; rwa [hha.2.1] at this)
      obtain ⟨dv, hdv⟩ : ∃ x, S.dir i = x := ⟨_, rfl⟩
      have HDR := Lib.hid hdv
      rw [hdv] at q1
      clear hcell hha hdv
      go_upto_region 2 with (fail)
      go_cut [36] (fun s wx => s = .bool dv ∧ Below w1.heap.size w1 wx)
      case first =>
        refine wp_region_held_drew (S := fun w' => (w'.cell? ⟨ob, 0, none⟩ = some (.slice (some ⟨ig, ioff, none⟩) n cap) ∧ w'.cell? ⟨ob, 1, none⟩ = some (.slice OA no ocap) ∧ w'.cell? ⟨ob, 2, none⟩ = some (.slice MA nm_ mcap) ∧ w'.cell? ⟨ig, ioff + i * 4 + 1, none⟩ = some (.bool dv))) (by kernel_rfl) (⟨p0, p1, p2, q1⟩) (fun hHeld => ?_)
        refine wpAnyH_take (i := 0) (oi := ⟨some 21, _, _, _, _, _⟩) (v := .int .i64 0) rfl (by kernel_rfl) (by kernel_rfl) (by kernel_rfl) (fun _ _ _ h => h) (Or.inl ⟨by kernel_rfl, fun w hSw => by go_simp⟩) (by assumption) ?_
        simp only [Act.put, lTA, lC0, lCS]
        refine wpAnyH_take (i := 1) (oi := ⟨some 22, _, _, _, _, _⟩) (v := .bool true) rfl (by kernel_rfl) (by kernel_rfl) (by kernel_rfl) (fun _ _ _ h => h) (Or.inl ⟨by kernel_rfl, fun w hSw => by go_simp⟩) (by assumption) ?_
        simp only [Act.put, lTA, lC0, lCS]
        refine wpAnyH_take (i := 2) (oi := ⟨some 23, _, _, _, _, _⟩) (v := .bool true) rfl (by kernel_rfl) (by kernel_rfl) (by kernel_rfl) (fun _ _ _ h => h) (Or.inl ⟨by kernel_rfl, fun w hSw => by go_simp⟩) (by assumption) ?_
        simp only [Act.put, lTA, lC0, lCS]
        refine wpAnyH_take (i := 3) (oi := ⟨some 24, _, _, _, _, _⟩) (v := .pointer (some ⟨ob, 0, none⟩)) rfl (by kernel_rfl) (by kernel_rfl) (by kernel_rfl) (fun _ _ _ h => h) (Or.inl ⟨by kernel_rfl, fun w hSw => by go_simp⟩) (by assumption) ?_
        simp only [Act.put, lTA, lC0, lCS]
        refine wpAnyH_take (i := 4) (oi := ⟨some 25, _, _, _, _, _⟩) (v := .pointer (some ⟨ob, 0, none⟩)) rfl (by kernel_rfl) (by kernel_rfl) (by kernel_rfl) (fun _ _ _ h => h) (Or.inl ⟨by kernel_rfl, fun w hSw => by go_simp⟩) (by assumption) ?_
        simp only [Act.put, lTA, lC0, lCS]
        refine wpAnyH_take (i := 5) (oi := ⟨some 26, _, _, _, _, _⟩) (v := .pointer (some ⟨ob, 0, none⟩)) rfl (by kernel_rfl) (by kernel_rfl) (by kernel_rfl) (fun _ _ _ h => h) (Or.inl ⟨by kernel_rfl, fun w hSw => by go_simp⟩) (by assumption) ?_
        simp only [Act.put, lTA, lC0, lCS]
        refine wpAnyH_take (i := 6) (oi := ⟨some 27, _, _, _, _, _⟩) (v := .slice (some ⟨ig, ioff, none⟩) n cap) rfl (by kernel_rfl) (by kernel_rfl) (by kernel_rfl) (fun _ _ _ h => h) (Or.inl ⟨by kernel_rfl, fun w hSw => by go_simp⟩) (by assumption) ?_
        simp only [Act.put, lTA, lC0, lCS]
        refine wpAnyH_take (i := 7) (oi := ⟨some 28, _, _, _, _, _⟩) (v := .pointer (some ⟨ob, 0, none⟩)) rfl (by kernel_rfl) (by kernel_rfl) (by kernel_rfl) (fun _ _ _ h => h) (Or.inl ⟨by kernel_rfl, fun w hSw => by go_simp⟩) (by assumption) ?_
        simp only [Act.put, lTA, lC0, lCS]
        refine wpAnyH_take (i := 8) (oi := ⟨some 29, _, _, _, _, _⟩) (v := .pointer (some ⟨ob, 0, none⟩)) rfl (by kernel_rfl) (by kernel_rfl) (by kernel_rfl) (fun _ _ _ h => h) (Or.inl ⟨by kernel_rfl, fun w hSw => by go_simp⟩) (by assumption) ?_
        simp only [Act.put, lTA, lC0, lCS]
        refine wpAnyH_take (i := 9) (oi := ⟨some 30, _, _, _, _, _⟩) (v := .agg #[.slice (some ⟨ig, ioff, none⟩) n cap, .slice OA no ocap, .slice MA nm_ mcap]) rfl (by kernel_rfl) (by kernel_rfl) (by kernel_rfl) (fun _ _ _ h => h) (Or.inl ⟨by kernel_rfl, fun w hSw => by go_simp⟩) (by assumption) ?_
        simp only [Act.put, lTA, lC0, lCS]
        refine wpAnyH_take (i := 10) (oi := ⟨some 31, _, _, _, _, _⟩) (v := .int .i64 num) rfl (by kernel_rfl) (by kernel_rfl) (by kernel_rfl) (fun _ _ _ h => h) (Or.inl ⟨by kernel_rfl, fun w hSw => by go_simp⟩) (by assumption) ?_
        simp only [Act.put, lTA, lC0, lCS]
        refine wpAnyH_ready (rs := [11]) (by kernel_rfl) (by simp) ?_
        refine AllReadyH.cons rfl (fun K hK => ?_) AllReadyH.nil
        go_simp
        refine (HCA.out).mono ?_
        rintro e w3 ⟨rfl, hB3⟩
        show K _ _
        refine hK.out _ _ (⟨(hB3.cell (World.block_lt_of_cell? _ _ hHeld.1)).trans hHeld.1, (hB3.cell (World.block_lt_of_cell? _ _ hHeld.2.1)).trans hHeld.2.1, (hB3.cell (World.block_lt_of_cell? _ _ hHeld.2.2.1)).trans hHeld.2.2.1, (hB3.cell (World.block_lt_of_cell? _ _ hHeld.2.2.2)).trans hHeld.2.2.2⟩) (fun hHeld => ?_)
        clear hK K
        refine wpAnyH_take (i := 12) (oi := ⟨some 33, _, _, _, _, _⟩) (v := .pointer (some ⟨ig, ioff + i * 4, none⟩)) rfl (by kernel_rfl) (by kernel_rfl) (by kernel_rfl) (fun _ _ _ h => h) (Or.inl ⟨by kernel_rfl, fun w hSw => by go_simp⟩) (by assumption) ?_
        simp only [Act.put, lTA, lC0, lCS]
        refine wpAnyH_take (i := 13) (oi := ⟨some 34, _, _, _, _, _⟩) (v := .pointer (some ⟨ig, ioff + i * 4 + 1, none⟩)) rfl (by kernel_rfl) (by kernel_rfl) (by kernel_rfl) (fun _ _ _ h => h) (Or.inl ⟨by kernel_rfl, fun w hSw => by go_simp⟩) (by assumption) ?_
        simp only [Act.put, lTA, lC0, lCS]
        refine wpAnyH_take (i := 14) (oi := ⟨some 35, _, _, _, _, _⟩) (v := .bool dv) rfl (by kernel_rfl) (by kernel_rfl) (by kernel_rfl) (fun _ _ _ h => h) (Or.inl ⟨by kernel_rfl, fun w hSw => by go_simp⟩) (by assumption) ?_
        simp only [Act.put, lTA, lC0, lCS]
        refine wpAnyH_take (i := 15) (oi := ⟨some 36, _, _, _, _, _⟩) (v := .bool dv) rfl (by kernel_rfl) (by kernel_rfl) (by kernel_rfl) (fun _ _ _ h => h) (Or.inl ⟨by kernel_rfl, fun w hSw => by go_simp⟩) (by assumption) ?_
        simp only [Act.put, lTA, lC0, lCS]
        refine wpAnyH_done (by kernel_rfl) ?_ _
        go_wp2_with (fail)
        go_meet
        case rel => exact ⟨rfl, (below_drew1 w1).trans hB3⟩
      case rest =>
        obtain ⟨rfl, hbc⟩ := hcut
        have HF2 := Lib.hid (HF1.out.below hbc)
        have HB2 := Lib.hid (HB1.out.trans (hbc.bk hbw1))
        obtain ⟨w2, hw2⟩ : ∃ x : World, x = wc := ⟨_, rfl⟩
        have hbw2 : base ≤ w2.heap.size := by rw [hw2]; exact Nat.le_trans hbw1 hbc.size
        subst hw2
        clear p0 p1 p2 q1 hbc HF1 HB1 hbw1 HCA
        rcases bool_tf dv with rfl | rfl
        · go_wp2_with (go_at_call 94; refine (fail2 _ _).mono ?_; rintro e wz ⟨rfl, hBz⟩; have HZ := Lib.hid (HF2.out.below hBz); have r0 : wz.cell? ⟨rb, 0, none⟩ = some (.int .i64 0) := HZ.out.rB.cell 0; have l0 := HZ.out.rB.frozen 0; have r1 : wz.cell? ⟨rb, 1, none⟩ = some (.int .i64 0) := HZ.out.rB.cell 1; have l1 := HZ.out.rB.frozen 1; have r2 : wz.cell? ⟨rb, 2, none⟩ = some (.int .i64 0) := HZ.out.rB.cell 2; have l2 := HZ.out.rB.frozen 2; have r3 : wz.cell? ⟨rb, 3, none⟩ = some (.bool false) := HZ.out.rB.cell 3; have l3 := HZ.out.rB.frozen 3; have r4 : wz.cell? ⟨rb, 4, none⟩ = some (.string ⟨#[]⟩) := HZ.out.rB.cell 4; have l4 := HZ.out.rB.frozen 4; have r5 : wz.cell? ⟨rb, 5, none⟩ = some (.slice none 0 0) := HZ.out.rB.cell 5; have l5 := HZ.out.rB.frozen 5; have HBZ := Lib.hid hBz; clear hBz)
          refine bodyPost_ret (v := .tuple #[.agg #[.int .i64 8, .int .i64 0, .int .i64 0, .bool false, .string ⟨#[]⟩, .slice none 0 0], .bool true]) ?_ rfl ⟨⟨_, _, _, _, _, _, _, _, _, rfl, fun h => absurd h (by decide)⟩, Bk.set6 (HB2.out.trans (HBZ.out.bk hbw2)) HZ.out.rb_le (by have := HRB.out; omega) _ _ _ _ _ _⟩
          simp [results, Try.results96, go_sem, r0, r1, r2, r3, r4, r5]
        · have HDF := Lib.hid (show (S.ino i).dir = false from HDR.out)
          go_wp2_with (fail)
          go_loopw [10, 11] (fun fv i' wr => ∃ (k f : Int), i' = .int .i64 k ∧ fv = .int .i64 f ∧ -1 ≤ k ∧ k ≤ 3 ∧ -1 ≤ f ∧ f ≤ 3 ∧ (0 ≤ f → fdF S c.core f = 0) ∧ Below w2.heap.size w2 wr) (fun _ i' _ => (intOf i' + 1).toNat)
          case atStart => exact ⟨3, -1, rfl, rfl, by omega, by omega, by omega, by omega, fun h => by omega, Below.refl _ _⟩
          case round =>
            obtain ⟨k, f, rfl, rfl, hk1, hk3, hf1, hf3, hfz, hb⟩ := hrel
            have HFZ := Lib.hid hfz
            have HF3 := Lib.hid (HF2.out.below hb)
            have HB3 := Lib.hid (HB2.out.trans (hb.bk hbw2))
            have HBb := Lib.hid hb
            have hbw3 : base ≤ wr.heap.size := Nat.le_trans hbw2 hb.size
            clear hfz hb
            by_cases hk : 0 ≤ k
            · have HFD := Lib.hid (Fd_calls (HF3.out.st.stm.keep (below_drew1 wr)) HI.out.small.no c.core k)
              obtain ⟨fx, hfx⟩ : ∃ x, fdF S c.core k = x := ⟨_, rfl⟩
              have HFX := Lib.hid hfx
              rw [hfx] at HFD
              clear hfx
              have p0 : wr.cell? ⟨ob, 0, none⟩ = some (.slice (some ⟨ig, ioff, none⟩) n cap) := HF3.out.st.c0
              have p1 : wr.cell? ⟨ob, 1, none⟩ = some (.slice OA no ocap) := HF3.out.st.c1
              have p2 : wr.cell? ⟨ob, 2, none⟩ = some (.slice MA nm_ mcap) := HF3.out.st.c2
              have k1 : wr.cell? ⟨cb, 1, none⟩ = some (.int .i64 c.core) := HF3.out.cB.cell 1
              go_upto_region 10 with (fail)
              obtain ⟨wo, hwo⟩ : ∃ x : World, x = wr := ⟨_, rfl⟩
              subst hwo
              go_cut [52] (fun s wx => s = .bool (fx == 0) ∧ Below wo.heap.size wo wx)
              case first =>
                refine wp_region_held_drew (S := fun w' => (w'.cell? ⟨ob, 0, none⟩ = some (.slice (some ⟨ig, ioff, none⟩) n cap) ∧ w'.cell? ⟨ob, 1, none⟩ = some (.slice OA no ocap) ∧ w'.cell? ⟨ob, 2, none⟩ = some (.slice MA nm_ mcap) ∧ w'.cell? ⟨cb, 1, none⟩ = some (.int .i64 c.core))) (by kernel_rfl) (⟨p0, p1, p2, k1⟩) (fun hHeld => ?_)
                refine wpAnyH_take (i := 0) (oi := ⟨some 45, _, _, _, _, _⟩) (v := .pointer (some ⟨ob, 0, none⟩)) rfl (by kernel_rfl) (by kernel_rfl) (by kernel_rfl) (fun _ _ _ h => h) (Or.inl ⟨by kernel_rfl, fun w hSw => by go_simp⟩) (by assumption) ?_
                simp only [Act.put, lTA, lC0, lCS]
                refine wpAnyH_take (i := 1) (oi := ⟨some 46, _, _, _, _, _⟩) (v := .pointer (some ⟨ob, 0, none⟩)) rfl (by kernel_rfl) (by kernel_rfl) (by kernel_rfl) (fun _ _ _ h => h) (Or.inl ⟨by kernel_rfl, fun w hSw => by go_simp⟩) (by assumption) ?_
                simp only [Act.put, lTA, lC0, lCS]
                refine wpAnyH_take (i := 2) (oi := ⟨some 47, _, _, _, _, _⟩) (v := .agg #[.slice (some ⟨ig, ioff, none⟩) n cap, .slice OA no ocap, .slice MA nm_ mcap]) rfl (by kernel_rfl) (by kernel_rfl) (by kernel_rfl) (fun _ _ _ h => h) (Or.inl ⟨by kernel_rfl, fun w hSw => by go_simp⟩) (by assumption) ?_
                simp only [Act.put, lTA, lC0, lCS]
                refine wpAnyH_take (i := 3) (oi := ⟨some 48, _, _, _, _, _⟩) (v := .pointer (some ⟨cb, 1, none⟩)) rfl (by kernel_rfl) (by kernel_rfl) (by kernel_rfl) (fun _ _ _ h => h) (Or.inl ⟨by kernel_rfl, fun w hSw => by go_simp⟩) (by assumption) ?_
                simp only [Act.put, lTA, lC0, lCS]
                refine wpAnyH_take (i := 4) (oi := ⟨some 49, _, _, _, _, _⟩) (v := .int .i64 c.core) rfl (by kernel_rfl) (by kernel_rfl) (by kernel_rfl) (fun _ _ _ h => h) (Or.inl ⟨by kernel_rfl, fun w hSw => by go_simp⟩) (by assumption) ?_
                simp only [Act.put, lTA, lC0, lCS]
                refine wpAnyH_take (i := 5) (oi := ⟨some 50, _, _, _, _, _⟩) (v := .int .i64 k) rfl (by kernel_rfl) (by kernel_rfl) (by kernel_rfl) (fun _ _ _ h => h) (Or.inl ⟨by kernel_rfl, fun w hSw => by go_simp⟩) (by assumption) ?_
                simp only [Act.put, lTA, lC0, lCS]
                refine wpAnyH_ready (rs := [6]) (by kernel_rfl) (by simp) ?_
                refine AllReadyH.cons rfl (fun K hK => ?_) AllReadyH.nil
                go_simp
                refine HFD.out.mono ?_
                rintro e w4 ⟨rfl, hB4⟩
                show K _ _
                refine hK.out _ _ (⟨(hB4.cell (World.block_lt_of_cell? _ _ hHeld.1)).trans hHeld.1, (hB4.cell (World.block_lt_of_cell? _ _ hHeld.2.1)).trans hHeld.2.1, (hB4.cell (World.block_lt_of_cell? _ _ hHeld.2.2.1)).trans hHeld.2.2.1, (hB4.cell (World.block_lt_of_cell? _ _ hHeld.2.2.2)).trans hHeld.2.2.2⟩) (fun hHeld => ?_)
                clear hK K
                refine wpAnyH_take (i := 7) (oi := ⟨some 52, _, _, _, _, _⟩) (v := .bool (fx == 0)) rfl (by kernel_rfl) (by kernel_rfl) (by kernel_rfl) (fun _ _ _ h => h) (Or.inl ⟨by kernel_rfl, fun w hSw => by go_simp⟩) (by assumption) ?_
                simp only [Act.put, lTA, lC0, lCS]
                refine wpAnyH_done (by kernel_rfl) ?_ _
                go_wp2_with (fail)
                go_meet
                case rel => exact ⟨rfl, (below_drew1 wo).trans hB4⟩
              case rest =>
                obtain ⟨rfl, hbc⟩ := hcut
                have HBc := Lib.hid (HBb.out.trans (hbc.mono HBb.out.size))
                clear p0 p1 p2 k1 hbc
                by_cases h0 : fx = 0
                · have h0' : (fx == 0) = true := by rw [h0]; rfl
                  have HFX0 := Lib.hid (show fdF S c.core k = 0 by rw [HFX.out, h0])
                  clear h0
                  go_wp2_with (fail)
                  go_roundw
                  case rel => exact ⟨k - 1, k, by go_num, rfl, by omega, by omega, by omega, by omega, fun _ => HFX0.out, HBc.out⟩
                  case measure =>
                    simp only [intOf]
                    omega
                · have h0' : (fx == 0) = false := by rw [beq_eq_false_iff_ne]; exact h0
                  clear h0
                  go_wp2_with (fail)
                  go_roundw
                  case rel => exact ⟨k - 1, f, by go_num, rfl, by omega, by omega, by omega, by omega, HFZ.out, HBc.out⟩
                  case measure =>
                    simp only [intOf]
                    omega
            · by_cases hf0 : f < 0
              · go_wp2_with (go_at_call 94; refine (fail2 _ _).mono ?_; rintro e wz ⟨rfl, hBz⟩; have HZ := Lib.hid (HF3.out.below hBz); have r0 : wz.cell? ⟨rb, 0, none⟩ = some (.int .i64 0) := HZ.out.rB.cell 0; have l0 := HZ.out.rB.frozen 0; have r1 : wz.cell? ⟨rb, 1, none⟩ = some (.int .i64 0) := HZ.out.rB.cell 1; have l1 := HZ.out.rB.frozen 1; have r2 : wz.cell? ⟨rb, 2, none⟩ = some (.int .i64 0) := HZ.out.rB.cell 2; have l2 := HZ.out.rB.frozen 2; have r3 : wz.cell? ⟨rb, 3, none⟩ = some (.bool false) := HZ.out.rB.cell 3; have l3 := HZ.out.rB.frozen 3; have r4 : wz.cell? ⟨rb, 4, none⟩ = some (.string ⟨#[]⟩) := HZ.out.rB.cell 4; have l4 := HZ.out.rB.frozen 4; have r5 : wz.cell? ⟨rb, 5, none⟩ = some (.slice none 0 0) := HZ.out.rB.cell 5; have l5 := HZ.out.rB.frozen 5; have HBZ := Lib.hid hBz; clear hBz)
                refine bodyPost_ret (v := .tuple #[.agg #[.int .i64 10, .int .i64 0, .int .i64 0, .bool false, .string ⟨#[]⟩, .slice none 0 0], .bool true]) ?_ rfl ⟨⟨_, _, _, _, _, _, _, _, _, rfl, fun h => absurd h (by decide)⟩, Bk.set6 (HB3.out.trans (HBZ.out.bk hbw3)) HZ.out.rb_le (by have := HRB.out; omega) _ _ _ _ _ _⟩
                simp [results, Try.results96, go_sem, r0, r1, r2, r3, r4, r5]
              · have hf4 : ¬ 4 ≤ f := by omega
                have HFD := Lib.hid (by have := Fd_calls (HF3.out.st.stm.keep (below_drew1 wr)) HI.out.small.no c.core f; rwa [HFZ.out (by omega)] at this)
                have p0 : wr.cell? ⟨ob, 0, none⟩ = some (.slice (some ⟨ig, ioff, none⟩) n cap) := HF3.out.st.c0
                have p1 : wr.cell? ⟨ob, 1, none⟩ = some (.slice OA no ocap) := HF3.out.st.c1
                have p2 : wr.cell? ⟨ob, 2, none⟩ = some (.slice MA nm_ mcap) := HF3.out.st.c2
                have k1 : wr.cell? ⟨cb, 1, none⟩ = some (.int .i64 c.core) := HF3.out.cB.cell 1
                go_upto_region 16 with (fail)
                obtain ⟨wo, hwo⟩ : ∃ x : World, x = wr := ⟨_, rfl⟩
                subst hwo
                go_cut [71] (fun s wx => s = .bool false ∧ Below wo.heap.size wo wx)
                case first =>
                  refine wp_region_held_drew (S := fun w' => (w'.cell? ⟨ob, 0, none⟩ = some (.slice (some ⟨ig, ioff, none⟩) n cap) ∧ w'.cell? ⟨ob, 1, none⟩ = some (.slice OA no ocap) ∧ w'.cell? ⟨ob, 2, none⟩ = some (.slice MA nm_ mcap) ∧ w'.cell? ⟨cb, 1, none⟩ = some (.int .i64 c.core))) (by kernel_rfl) (⟨p0, p1, p2, k1⟩) (fun hHeld => ?_)
                  refine wpAnyH_take (i := 0) (oi := ⟨some 60, _, _, _, _, _⟩) (v := .int .i64 f) rfl (by kernel_rfl) (by kernel_rfl) (by kernel_rfl) (fun _ _ _ h => h) (Or.inl ⟨by kernel_rfl, fun w hSw => by go_simp⟩) (by assumption) ?_
                  simp only [Act.put, lTA, lC0, lCS]
                  refine wpAnyH_take (i := 1) (oi := ⟨some 61, _, _, _, _, _⟩) (v := .bool false) rfl (by kernel_rfl) (by kernel_rfl) (by kernel_rfl) (fun _ _ _ h => h) (Or.inl ⟨by kernel_rfl, fun w hSw => by go_simp⟩) (by assumption) ?_
                  simp only [Act.put, lTA, lC0, lCS]
                  refine wpAnyH_take (i := 2) (oi := ⟨some 62, _, _, _, _, _⟩) (v := .bool false) rfl (by kernel_rfl) (by kernel_rfl) (by kernel_rfl) (fun _ _ _ h => h) (Or.inl ⟨by kernel_rfl, fun w hSw => by go_simp⟩) (by assumption) ?_
                  simp only [Act.put, lTA, lC0, lCS]
                  refine wpAnyH_take (i := 3) (oi := ⟨some 63, _, _, _, _, _⟩) (v := .pointer (some ⟨ob, 0, none⟩)) rfl (by kernel_rfl) (by kernel_rfl) (by kernel_rfl) (fun _ _ _ h => h) (Or.inl ⟨by kernel_rfl, fun w hSw => by go_simp⟩) (by assumption) ?_
                  simp only [Act.put, lTA, lC0, lCS]
                  refine wpAnyH_take (i := 4) (oi := ⟨some 64, _, _, _, _, _⟩) (v := .pointer (some ⟨ob, 0, none⟩)) rfl (by kernel_rfl) (by kernel_rfl) (by kernel_rfl) (fun _ _ _ h => h) (Or.inl ⟨by kernel_rfl, fun w hSw => by go_simp⟩) (by assumption) ?_
                  simp only [Act.put, lTA, lC0, lCS]
                  refine wpAnyH_take (i := 5) (oi := ⟨some 65, _, _, _, _, _⟩) (v := .agg #[.slice (some ⟨ig, ioff, none⟩) n cap, .slice OA no ocap, .slice MA nm_ mcap]) rfl (by kernel_rfl) (by kernel_rfl) (by kernel_rfl) (fun _ _ _ h => h) (Or.inl ⟨by kernel_rfl, fun w hSw => by go_simp⟩) (by assumption) ?_
                  simp only [Act.put, lTA, lC0, lCS]
                  refine wpAnyH_take (i := 6) (oi := ⟨some 66, _, _, _, _, _⟩) (v := .pointer (some ⟨cb, 1, none⟩)) rfl (by kernel_rfl) (by kernel_rfl) (by kernel_rfl) (fun _ _ _ h => h) (Or.inl ⟨by kernel_rfl, fun w hSw => by go_simp⟩) (by assumption) ?_
                  simp only [Act.put, lTA, lC0, lCS]
                  refine wpAnyH_take (i := 7) (oi := ⟨some 67, _, _, _, _, _⟩) (v := .int .i64 c.core) rfl (by kernel_rfl) (by kernel_rfl) (by kernel_rfl) (fun _ _ _ h => h) (Or.inl ⟨by kernel_rfl, fun w hSw => by go_simp⟩) (by assumption) ?_
                  simp only [Act.put, lTA, lC0, lCS]
                  refine wpAnyH_take (i := 8) (oi := ⟨some 68, _, _, _, _, _⟩) (v := .int .i64 f) rfl (by kernel_rfl) (by kernel_rfl) (by kernel_rfl) (fun _ _ _ h => h) (Or.inl ⟨by kernel_rfl, fun w hSw => by go_simp⟩) (by assumption) ?_
                  simp only [Act.put, lTA, lC0, lCS]
                  refine wpAnyH_ready (rs := [9]) (by kernel_rfl) (by simp) ?_
                  refine AllReadyH.cons rfl (fun K hK => ?_) AllReadyH.nil
                  go_simp
                  refine HFD.out.mono ?_
                  rintro e w5 ⟨rfl, hB5⟩
                  show K _ _
                  refine hK.out _ _ (⟨(hB5.cell (World.block_lt_of_cell? _ _ hHeld.1)).trans hHeld.1, (hB5.cell (World.block_lt_of_cell? _ _ hHeld.2.1)).trans hHeld.2.1, (hB5.cell (World.block_lt_of_cell? _ _ hHeld.2.2.1)).trans hHeld.2.2.1, (hB5.cell (World.block_lt_of_cell? _ _ hHeld.2.2.2)).trans hHeld.2.2.2⟩) (fun hHeld => ?_)
                  clear hK K
                  refine wpAnyH_take (i := 10) (oi := ⟨some 70, _, _, _, _, _⟩) (v := .bool false) rfl (by kernel_rfl) (by kernel_rfl) (by kernel_rfl) (fun _ _ _ h => h) (Or.inl ⟨by kernel_rfl, fun w hSw => by go_simp⟩) (by assumption) ?_
                  simp only [Act.put, lTA, lC0, lCS]
                  refine wpAnyH_take (i := 11) (oi := ⟨some 71, _, _, _, _, _⟩) (v := .bool false) rfl (by kernel_rfl) (by kernel_rfl) (by kernel_rfl) (fun _ _ _ h => h) (Or.inl ⟨by kernel_rfl, fun w hSw => by go_simp⟩) (by assumption) ?_
                  simp only [Act.put, lTA, lC0, lCS]
                  refine wpAnyH_done (by kernel_rfl) ?_ _
                  go_wp2_with (fail)
                  go_meet
                  case rel => exact ⟨rfl, (below_drew1 wo).trans hB5⟩
                case rest =>
                  obtain ⟨rfl, hbc⟩ := hcut
                  have HF4 := Lib.hid (HF3.out.below hbc)
                  have HB4 := Lib.hid (HB3.out.trans (hbc.bk hbw3))
                  have hbw4 : base ≤ wc.heap.size := Nat.le_trans hbw3 hbc.size
                  have HGR := Lib.hid (grab_calls HF4.out.st hbw4 HI.out.small.no c.core f num)
                  have HIG := Lib.hid (HI.out.grab (o := (c.core, f, num)) HCO.out.1 HCO.out.2 (by show (0 : Int) ≤ f; omega) (by show f < 4; omega) ⟨_, HHA.out.mem.1, HHA.out.mem.2, HDF.out⟩ (HI.out.fd_zero (HFZ.out (by omega))))
                  clear p0 p1 p2 k1 hbc HFD
                  have k1 : wc.cell? ⟨cb, 1, none⟩ = some (.int .i64 c.core) := HF4.out.cB.cell 1
                  go_upto_region 19 with (go_at_call 124; refine HGR.out.mono ?_; rintro e w6 ⟨rfl, hB7, hK7, ov6, hT6⟩; have HB7 := Lib.hid (Bk.mk hB7 hK7); have HZ := Lib.hid (Fr.mk hT6 (hK7.block HF4.out.cB (by decide) (by decide) (by decide)) (hK7.block HF4.out.rB (by decide) (by decide) (by decide)) HF4.out.rb_le); clear hB7 hT6 hK7)
                  have r0 : w6.cell? ⟨rb, 0, none⟩ = some (.int .i64 0) := HZ.out.rB.cell 0
                  have l0 := HZ.out.rB.frozen 0
                  have r1 : w6.cell? ⟨rb, 1, none⟩ = some (.int .i64 0) := HZ.out.rB.cell 1
                  have l1 := HZ.out.rB.frozen 1
                  have r2 : w6.cell? ⟨rb, 2, none⟩ = some (.int .i64 0) := HZ.out.rB.cell 2
                  have l2 := HZ.out.rB.frozen 2
                  have r3 : w6.cell? ⟨rb, 3, none⟩ = some (.bool false) := HZ.out.rB.cell 3
                  have l3 := HZ.out.rB.frozen 3
                  have r4 : w6.cell? ⟨rb, 4, none⟩ = some (.string ⟨#[]⟩) := HZ.out.rB.cell 4
                  have l4 := HZ.out.rB.frozen 4
                  have r5 : w6.cell? ⟨rb, 5, none⟩ = some (.slice none 0 0) := HZ.out.rB.cell 5
                  have l5 := HZ.out.rB.frozen 5
                  go_wp2_with (fail)
                  refine bodyPost_ret (v := .tuple #[.agg #[.int .i64 0, .int .i64 f, .int .i64 0, .bool false, .string ⟨#[]⟩, .slice none 0 0], .bool true]) ?_ rfl ⟨⟨_, _, _, _, _, _, _, _, _, rfl, fun _ => ⟨_, _, _, _, _, HIG.out, HZ.out.st.set6 HZ.out.rB _ _ _ _ _ _⟩⟩, Bk.set6 (HB4.out.trans HB7.out) HZ.out.rb_le (by have := HRB.out; omega) _ _ _ _ _ _⟩
                  simp [results, Try.results96, go_sem, r0, r1, r2, r3, r4, r5]
    · have hc1 : (code == 0) = false := by rw [beq_eq_false_iff_ne]; exact hc0
      have hc2 : (code != 0) = true := by simpa using hc0
      have HC0 := Lib.hid hc0
      clear hc0
      go_upto_region 2 with (fail)
      go_cut [36] (fun s wx => s = .bool false ∧ Below w1.heap.size w1 wx)
      case first =>
        refine wp_region_held_drew (S := fun w' => True) (by kernel_rfl) (trivial) (fun hHeld => ?_)
        refine wpAnyH_take (i := 0) (oi := ⟨some 21, _, _, _, _, _⟩) (v := .int .i64 code) rfl (by kernel_rfl) (by kernel_rfl) (by kernel_rfl) (fun _ _ _ h => h) (Or.inl ⟨by kernel_rfl, fun w hSw => by go_simp⟩) (by assumption) ?_
        simp only [Act.put, lTA, lC0, lCS]
        refine wpAnyH_take (i := 1) (oi := ⟨some 22, _, _, _, _, _⟩) (v := .bool false) rfl (by kernel_rfl) (by kernel_rfl) (by kernel_rfl) (fun _ _ _ h => h) (Or.inl ⟨by kernel_rfl, fun w hSw => by go_simp⟩) (by assumption) ?_
        simp only [Act.put, lTA, lC0, lCS]
        refine wpAnyH_take (i := 2) (oi := ⟨some 23, _, _, _, _, _⟩) (v := .bool false) rfl (by kernel_rfl) (by kernel_rfl) (by kernel_rfl) (fun _ _ _ h => h) (Or.inl ⟨by kernel_rfl, fun w hSw => by go_simp⟩) (by assumption) ?_
        simp only [Act.put, lTA, lC0, lCS]
        refine wpAnyH_take (i := 3) (oi := ⟨some 24, _, _, _, _, _⟩) (v := undef) rfl (by kernel_rfl) (by kernel_rfl) (by kernel_rfl) (fun _ _ _ h => h) (Or.inr ⟨by kernel_rfl, rfl⟩) (by assumption) ?_
        simp only [Act.put, lTA, lC0, lCS]
        refine wpAnyH_take (i := 4) (oi := ⟨some 25, _, _, _, _, _⟩) (v := undef) rfl (by kernel_rfl) (by kernel_rfl) (by kernel_rfl) (fun _ _ _ h => h) (Or.inr ⟨by kernel_rfl, rfl⟩) (by assumption) ?_
        simp only [Act.put, lTA, lC0, lCS]
        refine wpAnyH_take (i := 5) (oi := ⟨some 26, _, _, _, _, _⟩) (v := undef) rfl (by kernel_rfl) (by kernel_rfl) (by kernel_rfl) (fun _ _ _ h => h) (Or.inr ⟨by kernel_rfl, rfl⟩) (by assumption) ?_
        simp only [Act.put, lTA, lC0, lCS]
        refine wpAnyH_take (i := 6) (oi := ⟨some 27, _, _, _, _, _⟩) (v := undef) rfl (by kernel_rfl) (by kernel_rfl) (by kernel_rfl) (fun _ _ _ h => h) (Or.inr ⟨by kernel_rfl, rfl⟩) (by assumption) ?_
        simp only [Act.put, lTA, lC0, lCS]
        refine wpAnyH_take (i := 7) (oi := ⟨some 28, _, _, _, _, _⟩) (v := undef) rfl (by kernel_rfl) (by kernel_rfl) (by kernel_rfl) (fun _ _ _ h => h) (Or.inr ⟨by kernel_rfl, rfl⟩) (by assumption) ?_
        simp only [Act.put, lTA, lC0, lCS]
        refine wpAnyH_take (i := 8) (oi := ⟨some 29, _, _, _, _, _⟩) (v := undef) rfl (by kernel_rfl) (by kernel_rfl) (by kernel_rfl) (fun _ _ _ h => h) (Or.inr ⟨by kernel_rfl, rfl⟩) (by assumption) ?_
        simp only [Act.put, lTA, lC0, lCS]
        refine wpAnyH_take (i := 9) (oi := ⟨some 30, _, _, _, _, _⟩) (v := undef) rfl (by kernel_rfl) (by kernel_rfl) (by kernel_rfl) (fun _ _ _ h => h) (Or.inr ⟨by kernel_rfl, rfl⟩) (by assumption) ?_
        simp only [Act.put, lTA, lC0, lCS]
        refine wpAnyH_take (i := 10) (oi := ⟨some 31, _, _, _, _, _⟩) (v := undef) rfl (by kernel_rfl) (by kernel_rfl) (by kernel_rfl) (fun _ _ _ h => h) (Or.inr ⟨by kernel_rfl, rfl⟩) (by assumption) ?_
        simp only [Act.put, lTA, lC0, lCS]
        refine wpAnyH_take (i := 11) (oi := ⟨some 32, _, _, _, _, _⟩) (v := undef) rfl (by kernel_rfl) (by kernel_rfl) (by kernel_rfl) (fun _ _ _ h => h) (Or.inr ⟨by kernel_rfl, rfl⟩) (by assumption) ?_
        simp only [Act.put, lTA, lC0, lCS]
        refine wpAnyH_take (i := 12) (oi := ⟨some 33, _, _, _, _, _⟩) (v := undef) rfl (by kernel_rfl) (by kernel_rfl) (by kernel_rfl) (fun _ _ _ h => h) (Or.inr ⟨by kernel_rfl, rfl⟩) (by assumption) ?_
        simp only [Act.put, lTA, lC0, lCS]
        refine wpAnyH_take (i := 13) (oi := ⟨some 34, _, _, _, _, _⟩) (v := undef) rfl (by kernel_rfl) (by kernel_rfl) (by kernel_rfl) (fun _ _ _ h => h) (Or.inr ⟨by kernel_rfl, rfl⟩) (by assumption) ?_
        simp only [Act.put, lTA, lC0, lCS]
        refine wpAnyH_take (i := 14) (oi := ⟨some 35, _, _, _, _, _⟩) (v := undef) rfl (by kernel_rfl) (by kernel_rfl) (by kernel_rfl) (fun _ _ _ h => h) (Or.inr ⟨by kernel_rfl, rfl⟩) (by assumption) ?_
        simp only [Act.put, lTA, lC0, lCS]
        refine wpAnyH_take (i := 15) (oi := ⟨some 36, _, _, _, _, _⟩) (v := .bool false) rfl (by kernel_rfl) (by kernel_rfl) (by kernel_rfl) (fun _ _ _ h => h) (Or.inl ⟨by kernel_rfl, fun w hSw => by go_simp⟩) (by assumption) ?_
        simp only [Act.put, lTA, lC0, lCS]
        refine wpAnyH_done (by kernel_rfl) ?_ _
        go_wp2_with (fail)
        go_meet
        case rel => exact ⟨rfl, below_drew1 w1⟩
      case rest =>
        obtain ⟨rfl, hbc⟩ := hcut
        have HF2 := Lib.hid (HF1.out.below hbc)
        have HB2 := Lib.hid (HB1.out.trans (hbc.bk hbw1))
        clear hbc
        go_wp2_with (go_at_call 94; refine (fail2 _ _).mono ?_; rintro e wz ⟨rfl, hBz⟩; have HZ := Lib.hid (HF2.out.below hBz); have r0 : wz.cell? ⟨rb, 0, none⟩ = some (.int .i64 0) := HZ.out.rB.cell 0; have l0 := HZ.out.rB.frozen 0; have r1 : wz.cell? ⟨rb, 1, none⟩ = some (.int .i64 0) := HZ.out.rB.cell 1; have l1 := HZ.out.rB.frozen 1; have r2 : wz.cell? ⟨rb, 2, none⟩ = some (.int .i64 0) := HZ.out.rB.cell 2; have l2 := HZ.out.rB.frozen 2; have r3 : wz.cell? ⟨rb, 3, none⟩ = some (.bool false) := HZ.out.rB.cell 3; have l3 := HZ.out.rB.frozen 3; have r4 : wz.cell? ⟨rb, 4, none⟩ = some (.string ⟨#[]⟩) := HZ.out.rB.cell 4; have l4 := HZ.out.rB.frozen 4; have r5 : wz.cell? ⟨rb, 5, none⟩ = some (.slice none 0 0) := HZ.out.rB.cell 5; have l5 := HZ.out.rB.frozen 5; have HBZ := Lib.hid hBz; clear hBz)
        refine bodyPost_ret (v := .tuple #[.agg #[.int .i64 code, .int .i64 0, .int .i64 0, .bool false, .string ⟨#[]⟩, .slice none 0 0], .bool true]) ?_ rfl ⟨⟨_, _, _, _, _, _, _, _, _, rfl, fun h => absurd h HC0.out⟩, Bk.set6 (HB2.out.trans (HBZ.out.bk (by have := HB2.out.bel.size; omega))) HZ.out.rb_le (by have := HRB.out; omega) _ _ _ _ _ _⟩
        simp [results, Try.results96, go_sem, r0, r1, r2, r3, r4, r5]
end Go.Proofs.Ytenlffhoinialaa
