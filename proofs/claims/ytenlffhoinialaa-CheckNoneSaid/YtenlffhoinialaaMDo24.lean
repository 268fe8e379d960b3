/- The document's names. (Printed in part by genact13.py.) -/
import Derived.Test.YtenlffhoinialaaMDo23
namespace Go.Proofs.Ytenlffhoinialaa
open Go.RowKit
set_option maxHeartbeats 2000000
attribute [local go_sem ↓] Go.wp_at_zero Go.wp_at_succ
theorem Inv.drop_small {S : St} (h : Inv S) {d : Int} {x0 : Ino} (hx : x0 ∈ S.inodes) {L : List (ByteArray × Int)} (hL : L.Sublist x0.ents) : (setE S d L).inodes.length ≤ 1000 ∧ (∀ i, (setE S d L).ne i ≤ 1000) ∧ (setE S d L).opens.length ≤ 1000 := by
  have hw := Wk.setE h hx hL (d := d)
  refine ⟨by have := hw.ni; omega, fun i => ?_, by show S.opens.length ≤ 1000; have := h.no; omega⟩
  rcases Nat.lt_or_ge i (setE S d L).inodes.length with q | q
  · have := hw.en _ (Inv.ino_mem q); show ((setE S d L).ino i).ents.length ≤ 1000; omega
  · have : (setE S d L).ino i = noIno := by show (setE S d L).inodes.getD i noIno = _; rw [List.getD_eq_getElem?_getD, List.getElem?_eq_none q]; rfl
    show ((setE S d L).ino i).ents.length ≤ 1000
    rw [this]; decide
set_option maxRecDepth 1000000 in
theorem names_calls {w : World} {base ob : Nat} {iv ov mv : Value} {ev : Nat → Value} {S : St} (hT : StT w base ob iv ov mv ev S) (hbw : base ≤ w.heap.size) (hI : Inv S) (c : CallD) :
    Calls Try.prog 98 #[.pointer (some ⟨ob, 0, none⟩), .agg #[.int .i64 c.kind, .int .i64 c.core, .int .i64 c.fd, .int .i64 c.off, .int .i64 c.num, .string c.path, .string c.path2, .string c.data]] w fun e w' => MutR base ob w' e ∧ Bk base w w' := by
  obtain ⟨A, cap, rfl⟩ := hT.row.ino.at'.form
  obtain ⟨OA, ocap, rfl⟩ := hT.row.opn.at'.form
  obtain ⟨MA, mcap, rfl⟩ := hT.row.mad.at'.form
  have hni := hI.ni
  have HI := Lib.hid hI
  have HF0 := Lib.hid (Fr.lay hT hbw c)
  have HBL := Lib.hid (Fr.lay_below w (.cells #[.int .i64 c.kind, .int .i64 c.core, .int .i64 c.fd, .int .i64 c.off, .int .i64 c.num, .string c.path, .string c.path2, .string c.data] 51) (.cells #[.int .i64 0, .int .i64 0, .int .i64 0, .bool false, .string ⟨#[]⟩, .slice none 0 0] 47))
  obtain ⟨n, hnn⟩ : ∃ n, S.inodes.length = n := ⟨_, rfl⟩
  obtain ⟨no, hno⟩ : ∃ n, S.opens.length = n := ⟨_, rfl⟩
  obtain ⟨nm_, hnm⟩ : ∃ n, S.made.length = n := ⟨_, rfl⟩
  have HNN := Lib.hid hnn
  have HNO := Lib.hid hno
  have HNM := Lib.hid hnm
  rw [hnn, hno, hnm] at HF0
  rw [hnn] at hni
  clear hT hI hnn hno hnm
  go_enter Try.func98, Try.ntmps98
  go_upto_region 1 with (fail)
  obtain ⟨cb, hcb⟩ : ∃ x, x = w.heap.size := ⟨_, rfl⟩
  have HCB := Lib.hid hcb
  obtain ⟨rb, hrb⟩ : ∃ x, x = w.heap.size + 1 := ⟨_, rfl⟩
  have HRB := Lib.hid hrb
  rw [← hrb, ← hcb] at HF0
  rw [← hrb, ← hcb]
  clear hcb hrb
  generalize (w.alloc (.cells #[.int .i64 c.kind, .int .i64 c.core, .int .i64 c.fd, .int .i64 c.off, .int .i64 c.num, .string c.path, .string c.path2, .string c.data] 51)).alloc (.cells #[.int .i64 0, .int .i64 0, .int .i64 0, .bool false, .string ⟨#[]⟩, .slice none 0 0] 47) = w0 at *
  have HB0 := Lib.hid (HBL.out.bk hbw)
  have hbw0 : base ≤ w0.heap.size := by have := HBL.out.size; omega
  clear HBL
  have p0 : w0.cell? ⟨ob, 0, none⟩ = some (.slice A n cap) := HF0.out.st.c0
  have p1 : w0.cell? ⟨ob, 1, none⟩ = some (.slice OA no ocap) := HF0.out.st.c1
  have p2 : w0.cell? ⟨ob, 2, none⟩ = some (.slice MA nm_ mcap) := HF0.out.st.c2
  have k0 : w0.cell? ⟨cb, 0, none⟩ = some (.int .i64 c.kind) := HF0.out.cB.cell 0
  have k1 : w0.cell? ⟨cb, 1, none⟩ = some (.int .i64 c.core) := HF0.out.cB.cell 1
  have k2 : w0.cell? ⟨cb, 2, none⟩ = some (.int .i64 c.fd) := HF0.out.cB.cell 2
  have k3 : w0.cell? ⟨cb, 3, none⟩ = some (.int .i64 c.off) := HF0.out.cB.cell 3
  have k4 : w0.cell? ⟨cb, 4, none⟩ = some (.int .i64 c.num) := HF0.out.cB.cell 4
  have k5 : w0.cell? ⟨cb, 5, none⟩ = some (.string c.path) := HF0.out.cB.cell 5
  have k6 : w0.cell? ⟨cb, 6, none⟩ = some (.string c.path2) := HF0.out.cB.cell 6
  have k7 : w0.cell? ⟨cb, 7, none⟩ = some (.string c.data) := HF0.out.cB.cell 7
  by_cases h8 : c.kind = 8
  · have e8 : (c.kind == 8) = true := by rw [h8]; rfl
    clear h8
    have HMU := Lib.hid (link_calls HF0.out.st hbw0 HI.out c)
    go_wp2_with (go_at_call 127; refine HMU.out.mono ?_; rintro e wM ⟨⟨mc, mfd, mnum, mdr, mdat, mA, ml, mcp, rfl, hm⟩, hB⟩; have HMM := Lib.hid hm; have HBM := Lib.hid hB; have HRBZ := Lib.hid (hB.kp.block HF0.out.rB (by decide) (by decide) (by decide)); have HRBL := Lib.hid HF0.out.rb_le; have r0 : wM.cell? ⟨rb, 0, none⟩ = some (.int .i64 0) := HRBZ.out.cell 0; have l0 := HRBZ.out.frozen 0; have r1 : wM.cell? ⟨rb, 1, none⟩ = some (.int .i64 0) := HRBZ.out.cell 1; have l1 := HRBZ.out.frozen 1; have r2 : wM.cell? ⟨rb, 2, none⟩ = some (.int .i64 0) := HRBZ.out.cell 2; have l2 := HRBZ.out.frozen 2; have r3 : wM.cell? ⟨rb, 3, none⟩ = some (.bool false) := HRBZ.out.cell 3; have l3 := HRBZ.out.frozen 3; have r4 : wM.cell? ⟨rb, 4, none⟩ = some (.string ⟨#[]⟩) := HRBZ.out.cell 4; have l4 := HRBZ.out.frozen 4; have r5 : wM.cell? ⟨rb, 5, none⟩ = some (.slice none 0 0) := HRBZ.out.cell 5; have l5 := HRBZ.out.frozen 5; clear hm hB)
    refine bodyPost_ret (v := .agg #[.int .i64 mc, .int .i64 mfd, .int .i64 mnum, .bool mdr, .string mdat, .slice mA ml mcp]) ?_ rfl ⟨⟨mc, _, _, _, _, _, _, _, rfl, fun h => by obtain ⟨iv', ov', mv', ev', S', h1, h2⟩ := HMM.out h; exact ⟨iv', ov', mv', ev', S', h1, h2.set6 HRBZ.out _ _ _ _ _ _⟩⟩, Bk.set6 (HB0.out.trans HBM.out) HRBL.out (by have := HRB.out; omega) _ _ _ _ _ _⟩
    simp [results, Try.results98, go_sem, r0, r1, r2, r3, r4, r5]
  · have e8 : (c.kind == 8) = false := by rw [beq_eq_false_iff_ne]; exact h8
    clear h8
    go_upto_region 3 with (fail)
    go_cut [5, 6, 7] (fun s1 s2 s3 wx => ∃ dnum nm code2, s1 = .int .i64 dnum ∧ s2 = .string nm ∧ s3 = .int .i64 code2 ∧ ParentR S dnum nm code2 ∧ Below w0.heap.size w0 wx)
    case first =>
      clear k0 k1 k2 k3 k4 k6 k7
      refine wp_region_held_drew (S := fun w' => (w'.cell? ⟨ob, 0, none⟩ = some (.slice A n cap) ∧ w'.cell? ⟨ob, 1, none⟩ = some (.slice OA no ocap) ∧ w'.cell? ⟨ob, 2, none⟩ = some (.slice MA nm_ mcap) ∧ w'.cell? ⟨cb, 5, none⟩ = some (.string c.path))) (by kernel_rfl) (⟨p0, p1, p2, k5⟩) (fun hHeld => ?_)
      refine wpAnyH_take (i := 0) (oi := ⟨some 17, _, _, _, _, _⟩) (v := .pointer (some ⟨ob, 0, none⟩)) rfl (by kernel_rfl) (by kernel_rfl) (by kernel_rfl) (fun _ _ _ h => h) (Or.inl ⟨by kernel_rfl, fun w hSw => by go_simp⟩) (by assumption) ?_
      simp only [Act.put, lTA, lC0, lCS]
      refine wpAnyH_take (i := 1) (oi := ⟨some 18, _, _, _, _, _⟩) (v := .pointer (some ⟨ob, 0, none⟩)) rfl (by kernel_rfl) (by kernel_rfl) (by kernel_rfl) (fun _ _ _ h => h) (Or.inl ⟨by kernel_rfl, fun w hSw => by go_simp⟩) (by assumption) ?_
      simp only [Act.put, lTA, lC0, lCS]
      refine wpAnyH_take (i := 2) (oi := ⟨some 19, _, _, _, _, _⟩) (v := .agg #[.slice A n cap, .slice OA no ocap, .slice MA nm_ mcap]) rfl (by kernel_rfl) (by kernel_rfl) (by kernel_rfl) (fun _ _ _ h => h) (Or.inl ⟨by kernel_rfl, fun w hSw => by go_simp⟩) (by assumption) ?_
      simp only [Act.put, lTA, lC0, lCS]
      refine wpAnyH_take (i := 3) (oi := ⟨some 20, _, _, _, _, _⟩) (v := .pointer (some ⟨cb, 5, none⟩)) rfl (by kernel_rfl) (by kernel_rfl) (by kernel_rfl) (fun _ _ _ h => h) (Or.inl ⟨by kernel_rfl, fun w hSw => by go_simp⟩) (by assumption) ?_
      simp only [Act.put, lTA, lC0, lCS]
      refine wpAnyH_take (i := 4) (oi := ⟨some 21, _, _, _, _, _⟩) (v := .string c.path) rfl (by kernel_rfl) (by kernel_rfl) (by kernel_rfl) (fun _ _ _ h => h) (Or.inl ⟨by kernel_rfl, fun w hSw => by go_simp⟩) (by assumption) ?_
      simp only [Act.put, lTA, lC0, lCS]
      refine wpAnyH_ready (rs := [5]) (by kernel_rfl) (by simp) ?_
      refine AllReadyH.cons rfl (fun K hK => ?_) AllReadyH.nil
      go_simp
      refine (Parent_calls (HF0.out.st.stm.keep (below_drew1 w0)) HI.out c.path).mono ?_
      rintro e wP ⟨dnum, nm, code2, rfl, hpr, hBP⟩
      show K _ _
      refine hK.out _ _ (⟨(hBP.cell (World.block_lt_of_cell? _ _ hHeld.1)).trans hHeld.1, (hBP.cell (World.block_lt_of_cell? _ _ hHeld.2.1)).trans hHeld.2.1, (hBP.cell (World.block_lt_of_cell? _ _ hHeld.2.2.1)).trans hHeld.2.2.1, (hBP.cell (World.block_lt_of_cell? _ _ hHeld.2.2.2)).trans hHeld.2.2.2⟩) (fun hHeld => ?_)
      clear hK K
      refine wpAnyH_take (i := 6) (oi := ⟨some 16, _, _, _, _, _⟩) (v := .tuple #[.int .i64 dnum, .string nm, .int .i64 code2]) rfl (by kernel_rfl) (by kernel_rfl) (by kernel_rfl) (fun _ _ _ h => h) (Or.inl ⟨by kernel_rfl, fun w hSw => by go_simp⟩) (by assumption) ?_
      simp only [Act.put, lTA, lC0, lCS]
      refine wpAnyH_take (i := 7) (oi := ⟨some 23, _, _, _, _, _⟩) (v := .int .i64 dnum) rfl (by kernel_rfl) (by kernel_rfl) (by kernel_rfl) (fun _ _ _ h => h) (Or.inl ⟨by kernel_rfl, fun w hSw => by go_simp⟩) (by assumption) ?_
      simp only [Act.put, lTA, lC0, lCS]
      refine wpAnyH_take (i := 8) (oi := ⟨some 24, _, _, _, _, _⟩) (v := .string nm) rfl (by kernel_rfl) (by kernel_rfl) (by kernel_rfl) (fun _ _ _ h => h) (Or.inl ⟨by kernel_rfl, fun w hSw => by go_simp⟩) (by assumption) ?_
      simp only [Act.put, lTA, lC0, lCS]
      refine wpAnyH_take (i := 9) (oi := ⟨some 25, _, _, _, _, _⟩) (v := .int .i64 code2) rfl (by kernel_rfl) (by kernel_rfl) (by kernel_rfl) (fun _ _ _ h => h) (Or.inl ⟨by kernel_rfl, fun w hSw => by go_simp⟩) (by assumption) ?_
      simp only [Act.put, lTA, lC0, lCS]
      refine wpAnyH_take (i := 10) (oi := ⟨some 5, _, _, _, _, _⟩) (v := .int .i64 dnum) rfl (by kernel_rfl) (by kernel_rfl) (by kernel_rfl) (fun _ _ _ h => h) (Or.inl ⟨by kernel_rfl, fun w hSw => by go_simp⟩) (by assumption) ?_
      simp only [Act.put, lTA, lC0, lCS]
      refine wpAnyH_take (i := 11) (oi := ⟨some 6, _, _, _, _, _⟩) (v := .string nm) rfl (by kernel_rfl) (by kernel_rfl) (by kernel_rfl) (fun _ _ _ h => h) (Or.inl ⟨by kernel_rfl, fun w hSw => by go_simp⟩) (by assumption) ?_
      simp only [Act.put, lTA, lC0, lCS]
      refine wpAnyH_take (i := 12) (oi := ⟨some 7, _, _, _, _, _⟩) (v := .int .i64 code2) rfl (by kernel_rfl) (by kernel_rfl) (by kernel_rfl) (fun _ _ _ h => h) (Or.inl ⟨by kernel_rfl, fun w hSw => by go_simp⟩) (by assumption) ?_
      simp only [Act.put, lTA, lC0, lCS]
      refine wpAnyH_done (by kernel_rfl) ?_ _
      go_wp2_with (fail)
      go_meet
      case rel => exact ⟨_, _, _, rfl, rfl, rfl, hpr, (below_drew1 w0).trans hBP⟩
    case rest =>
      obtain ⟨dnum, nm, code2, rfl, rfl, rfl, hpr, hbc⟩ := hcut
      have HPR := Lib.hid hpr
      have HF1 := Lib.hid (HF0.out.below hbc)
      have HB1 := Lib.hid (HB0.out.trans (hbc.bk hbw0))
      obtain ⟨w1, hw1⟩ : ∃ x : World, x = wc := ⟨_, rfl⟩
      have hbw1 : base ≤ w1.heap.size := by rw [hw1]; exact Nat.le_trans hbw0 hbc.size
      subst hw1
      clear p0 p1 p2 k0 k1 k2 k3 k4 k5 k6 k7 hpr hbc HF0 HB0 hbw0
      by_cases hd0 : code2 = 0
      · subst hd0
        obtain ⟨⟨di, hda, hddir⟩, hnm⟩ := (HPR.out.resolve_left (fun h => h rfl)).2
        have HDA := Lib.hid hda
        have HDD := Lib.hid (show (S.ino di).dir = true from hddir)
        have HCE := Lib.hid (Entry_calls HF1.out.st.stm (by rw [HNN.out]; omega) HI.out.small.en dnum nm)
        have HEZ := Lib.hid (show entF S dnum nm = entIn (S.ino di).ents nm from entF_at hda nm)
        have HHE := Lib.hid (fun (h : entF S dnum nm ≠ 0) => HI.out.has_ent hda h)
        obtain ⟨num, hnum⟩ : ∃ x, entF S dnum nm = x := ⟨_, rfl⟩
        have HNU := Lib.hid hnum
        rw [hnum] at HCE HEZ HHE
        have p0 : w1.cell? ⟨ob, 0, none⟩ = some (.slice A n cap) := HF1.out.st.c0
        have p1 : w1.cell? ⟨ob, 1, none⟩ = some (.slice OA no ocap) := HF1.out.st.c1
        have p2 : w1.cell? ⟨ob, 2, none⟩ = some (.slice MA nm_ mcap) := HF1.out.st.c2
        clear hda hddir hnm hnum
        go_upto_region 7 with (go_at_call 119; refine HCE.out.mono ?_; rintro e w2 ⟨rfl, hB2⟩; have HBx := Lib.hid hB2; clear hB2)
        have HF2 := Lib.hid (HF1.out.below HBx.out)
        have HB2 := Lib.hid (HB1.out.trans (HBx.out.bk hbw1))
        have hbw2 : base ≤ w2.heap.size := Nat.le_trans hbw1 HBx.out.size
        clear p0 p1 p2 HCE HF1 HB1 hbw1 HBx
        by_cases hn0 : num = 0
        · have hn1 : (num == 0) = true := by rw [hn0]; rfl
          clear hn0
          go_wp2_with (go_at_call 94; refine (fail2 _ _).mono ?_; rintro e wz ⟨rfl, hBz⟩; have HZ := Lib.hid (HF2.out.below hBz); have r0 : wz.cell? ⟨rb, 0, none⟩ = some (.int .i64 0) := HZ.out.rB.cell 0; have l0 := HZ.out.rB.frozen 0; have r1 : wz.cell? ⟨rb, 1, none⟩ = some (.int .i64 0) := HZ.out.rB.cell 1; have l1 := HZ.out.rB.frozen 1; have r2 : wz.cell? ⟨rb, 2, none⟩ = some (.int .i64 0) := HZ.out.rB.cell 2; have l2 := HZ.out.rB.frozen 2; have r3 : wz.cell? ⟨rb, 3, none⟩ = some (.bool false) := HZ.out.rB.cell 3; have l3 := HZ.out.rB.frozen 3; have r4 : wz.cell? ⟨rb, 4, none⟩ = some (.string ⟨#[]⟩) := HZ.out.rB.cell 4; have l4 := HZ.out.rB.frozen 4; have r5 : wz.cell? ⟨rb, 5, none⟩ = some (.slice none 0 0) := HZ.out.rB.cell 5; have l5 := HZ.out.rB.frozen 5; have HBZ := Lib.hid hBz; clear hBz)
          refine bodyPost_ret (v := .agg #[.int .i64 1, .int .i64 0, .int .i64 0, .bool false, .string ⟨#[]⟩, .slice none 0 0]) ?_ rfl ⟨⟨1, _, _, _, _, _, _, _, rfl, fun h => absurd h (by decide)⟩, Bk.set6 (HB2.out.trans (HBZ.out.bk hbw2)) HZ.out.rb_le (by have := HRB.out; omega) _ _ _ _ _ _⟩
          simp [results, Try.results98, go_sem, r0, r1, r2, r3, r4, r5]
        · have hn1 : (num == 0) = false := by rw [beq_eq_false_iff_ne]; exact hn0
          have HN0 := Lib.hid hn0
          obtain ⟨i, hha⟩ := HHE.out hn0
          have HHA := Lib.hid hha
          have hil : i < n := by have := hha.1; rwa [HNN.out] at this
          have hil1 : (i : Int) < (n : Int) := by omega
          have hil2 : (0 : Int) ≤ (i : Int) := by omega
          have ei : IntKind.i64.wrap (i : Int) = (i : Int) := IntWalk.i64_in _ (by omega)
          obtain ⟨-, -, ig, ioff, rfl, hcell⟩ := (show RowAt w2 (.slice A n cap) n 4 (inoC S ev) by have := HF2.out.st.stm.ino; rwa [HNN.out] at this).at_ hil
          have q0 : w2.cell? ⟨ig, ioff + i * 4, none⟩ = some (.int .i64 (S.num i)) := hcell 0 (by omega)
          have q1 : w2.cell? ⟨ig, ioff + i * 4 + 1, none⟩ = some (.bool (S.dir i)) := hcell 1 (by omega)
          have q2 : w2.cell? ⟨ig, ioff + i * 4 + 2, none⟩ = some (ev i) := hcell 2 (by omega)
          have q3 : w2.cell? ⟨ig, ioff + i * 4 + 3, none⟩ = some (.string (S.dat i)) := hcell 3 (by omega)
          have HEW := Lib.hid (HF2.out.st.stm.ent i (by rw [HNN.out]; exact hil))
          obtain ⟨EA, ecap, hev⟩ := HEW.out.form
          rw [hev] at q2 HEW
          clear hcell hev
          obtain ⟨xn, hxn⟩ : ∃ x, S.num i = x := ⟨_, rfl⟩
          obtain ⟨dr, hdr⟩ : ∃ x, S.dir i = x := ⟨_, rfl⟩
          obtain ⟨dat, hdt⟩ : ∃ x, S.dat i = x := ⟨_, rfl⟩
          obtain ⟨ne, hne⟩ : ∃ x, S.ne i = x := ⟨_, rfl⟩
          have HXN := Lib.hid hxn
          have HDRR := Lib.hid hdr
          have HDT := Lib.hid hdt
          have HNE := Lib.hid hne
          rw [hxn] at q0
          rw [hdr] at q1
          rw [hdt] at q3
          rw [hne] at q2 HEW
          clear hxn hdr hdt hne
          have p0 : w2.cell? ⟨ob, 0, none⟩ = some (.slice (some ⟨ig, ioff, none⟩) n cap) := HF2.out.st.c0
          have p1 : w2.cell? ⟨ob, 1, none⟩ = some (.slice OA no ocap) := HF2.out.st.c1
          have p2 : w2.cell? ⟨ob, 2, none⟩ = some (.slice MA nm_ mcap) := HF2.out.st.c2
          have hen : ne ≤ 32 := by rw [← HNE.out]; exact HI.out.en HHA.out.mem.1
          have HCA := Lib.hid (fun W hW => by have := At_calls (S := S) (w := W) (iv := .slice (some ⟨ig, ioff, none⟩) n cap) (ov := .slice OA no ocap) (mv := .slice MA nm_ mcap) (ev := ev) hW (by rw [HNN.out]; omega) num; rwa [hha.2.1] at this)
          clear hha hn0
          go_upto_region 9 with (fail)
          go_cut [9] (fun s wx => ∃ b, s = .pointer (some ⟨b, 0, none⟩) ∧ w2.heap.size ≤ b ∧ Blk wx b 56 #[.int .i64 xn, .bool dr, .slice EA ne ecap, .string dat] ∧ Below w2.heap.size w2 wx)
          case first =>
            refine wp_region_held_drew (S := fun w' => (w'.cell? ⟨ob, 0, none⟩ = some (.slice (some ⟨ig, ioff, none⟩) n cap) ∧ w'.cell? ⟨ob, 1, none⟩ = some (.slice OA no ocap) ∧ w'.cell? ⟨ob, 2, none⟩ = some (.slice MA nm_ mcap) ∧ w'.cell? ⟨ig, ioff + i * 4, none⟩ = some (.int .i64 xn) ∧ w'.cell? ⟨ig, ioff + i * 4 + 1, none⟩ = some (.bool dr) ∧ w'.cell? ⟨ig, ioff + i * 4 + 2, none⟩ = some (.slice EA ne ecap) ∧ w'.cell? ⟨ig, ioff + i * 4 + 3, none⟩ = some (.string dat))) (by kernel_rfl) (⟨p0, p1, p2, q0, q1, q2, q3⟩) (fun hHeld => ?_)
            refine wpAnyH_take (i := 0) (oi := ⟨some 39, _, _, _, _, _⟩) (v := .pointer (some ⟨ob, 0, none⟩)) rfl (by kernel_rfl) (by kernel_rfl) (by kernel_rfl) (fun _ _ _ h => h) (Or.inl ⟨by kernel_rfl, fun w hSw => by go_simp⟩) (by assumption) ?_
            simp only [Act.put, lTA, lC0, lCS]
            refine wpAnyH_take (i := 1) (oi := ⟨some 40, _, _, _, _, _⟩) (v := .pointer (some ⟨ob, 0, none⟩)) rfl (by kernel_rfl) (by kernel_rfl) (by kernel_rfl) (fun _ _ _ h => h) (Or.inl ⟨by kernel_rfl, fun w hSw => by go_simp⟩) (by assumption) ?_
            simp only [Act.put, lTA, lC0, lCS]
            refine wpAnyH_take (i := 2) (oi := ⟨some 41, _, _, _, _, _⟩) (v := .pointer (some ⟨ob, 0, none⟩)) rfl (by kernel_rfl) (by kernel_rfl) (by kernel_rfl) (fun _ _ _ h => h) (Or.inl ⟨by kernel_rfl, fun w hSw => by go_simp⟩) (by assumption) ?_
            simp only [Act.put, lTA, lC0, lCS]
            refine wpAnyH_take (i := 3) (oi := ⟨some 42, _, _, _, _, _⟩) (v := .slice (some ⟨ig, ioff, none⟩) n cap) rfl (by kernel_rfl) (by kernel_rfl) (by kernel_rfl) (fun _ _ _ h => h) (Or.inl ⟨by kernel_rfl, fun w hSw => by go_simp⟩) (by assumption) ?_
            simp only [Act.put, lTA, lC0, lCS]
            refine wpAnyH_take (i := 4) (oi := ⟨some 43, _, _, _, _, _⟩) (v := .pointer (some ⟨ob, 0, none⟩)) rfl (by kernel_rfl) (by kernel_rfl) (by kernel_rfl) (fun _ _ _ h => h) (Or.inl ⟨by kernel_rfl, fun w hSw => by go_simp⟩) (by assumption) ?_
            simp only [Act.put, lTA, lC0, lCS]
            refine wpAnyH_take (i := 5) (oi := ⟨some 44, _, _, _, _, _⟩) (v := .pointer (some ⟨ob, 0, none⟩)) rfl (by kernel_rfl) (by kernel_rfl) (by kernel_rfl) (fun _ _ _ h => h) (Or.inl ⟨by kernel_rfl, fun w hSw => by go_simp⟩) (by assumption) ?_
            simp only [Act.put, lTA, lC0, lCS]
            refine wpAnyH_take (i := 6) (oi := ⟨some 45, _, _, _, _, _⟩) (v := .agg #[.slice (some ⟨ig, ioff, none⟩) n cap, .slice OA no ocap, .slice MA nm_ mcap]) rfl (by kernel_rfl) (by kernel_rfl) (by kernel_rfl) (fun _ _ _ h => h) (Or.inl ⟨by kernel_rfl, fun w hSw => by go_simp⟩) (by assumption) ?_
            simp only [Act.put, lTA, lC0, lCS]
            refine wpAnyH_take (i := 7) (oi := ⟨some 46, _, _, _, _, _⟩) (v := .int .i64 num) rfl (by kernel_rfl) (by kernel_rfl) (by kernel_rfl) (fun _ _ _ h => h) (Or.inl ⟨by kernel_rfl, fun w hSw => by go_simp⟩) (by assumption) ?_
            simp only [Act.put, lTA, lC0, lCS]
            refine wpAnyH_ready (rs := [8, 11]) (by kernel_rfl) (by simp) ?_
            refine AllReadyH.cons rfl (fun K hK => ?_) (AllReadyH.cons rfl (fun K hK => ?_) AllReadyH.nil)
            · go_simp
              refine (HCA.out _ (HF2.out.st.stm.keep (below_drew1 w2))).mono ?_
              rintro e w6 ⟨rfl, hB6⟩
              show K _ _
              refine hK.out _ _ (⟨(hB6.cell (World.block_lt_of_cell? _ _ hHeld.1)).trans hHeld.1, (hB6.cell (World.block_lt_of_cell? _ _ hHeld.2.1)).trans hHeld.2.1, (hB6.cell (World.block_lt_of_cell? _ _ hHeld.2.2.1)).trans hHeld.2.2.1, (hB6.cell (World.block_lt_of_cell? _ _ hHeld.2.2.2.1)).trans hHeld.2.2.2.1, (hB6.cell (World.block_lt_of_cell? _ _ hHeld.2.2.2.2.1)).trans hHeld.2.2.2.2.1, (hB6.cell (World.block_lt_of_cell? _ _ hHeld.2.2.2.2.2.1)).trans hHeld.2.2.2.2.2.1, (hB6.cell (World.block_lt_of_cell? _ _ hHeld.2.2.2.2.2.2)).trans hHeld.2.2.2.2.2.2⟩) (fun hHeld => ?_)
              clear hK K
              refine wpAnyH_take (i := 9) (oi := ⟨some 48, _, _, _, _, _⟩) (v := .pointer (some ⟨ig, ioff + i * 4, none⟩)) rfl (by kernel_rfl) (by kernel_rfl) (by kernel_rfl) (fun _ _ _ h => h) (Or.inl ⟨by kernel_rfl, fun w hSw => by go_simp⟩) (by assumption) ?_
              simp only [Act.put, lTA, lC0, lCS]
              refine wpAnyH_take (i := 10) (oi := ⟨some 49, _, _, _, _, _⟩) (v := .agg #[.int .i64 xn, .bool dr, .slice EA ne ecap, .string dat]) rfl (by kernel_rfl) (by kernel_rfl) (by kernel_rfl) (fun _ _ _ h => h) (Or.inl ⟨by kernel_rfl, fun w hSw => by go_simp⟩) (by assumption) ?_
              simp only [Act.put, lTA, lC0, lCS]
              refine wpAnyH_ready (rs := [11]) (by kernel_rfl) (by simp) ?_
              refine AllReadyH.cons rfl (fun K hK => ?_) AllReadyH.nil
              go_simp
              have hA7 := below_alloc w6 (.cells #[.int .i64 0, .bool false, .slice none 0 0, .string ⟨#[]⟩] 56)
              show K _ _
              refine hK.out _ _ (⟨(hA7.cell (World.block_lt_of_cell? _ _ hHeld.1)).trans hHeld.1, (hA7.cell (World.block_lt_of_cell? _ _ hHeld.2.1)).trans hHeld.2.1, (hA7.cell (World.block_lt_of_cell? _ _ hHeld.2.2.1)).trans hHeld.2.2.1, (hA7.cell (World.block_lt_of_cell? _ _ hHeld.2.2.2.1)).trans hHeld.2.2.2.1, (hA7.cell (World.block_lt_of_cell? _ _ hHeld.2.2.2.2.1)).trans hHeld.2.2.2.2.1, (hA7.cell (World.block_lt_of_cell? _ _ hHeld.2.2.2.2.2.1)).trans hHeld.2.2.2.2.2.1, (hA7.cell (World.block_lt_of_cell? _ _ hHeld.2.2.2.2.2.2)).trans hHeld.2.2.2.2.2.2⟩) (fun hHeld => ?_)
              clear hK K
              have hsz6 : w2.heap.size ≤ w6.heap.size := hB6.size
              have hF : Below w2.heap.size w2 (w6.alloc (Obj.cells #[.int .i64 xn, .bool dr, .slice EA ne ecap, .string dat] 56)) := ((below_drew1 w2).trans (show Below w2.heap.size w2.drew w6 from hB6)).alloc hsz6 _
              refine wpAnyH_ready (rs := [12]) (by kernel_rfl) (by simp) ?_
              refine AllReadyH.cons rfl (fun K hK => ?_) AllReadyH.nil
              go_simp
              show K _ _
              refine hK.out _ _ (⟨(hF.cell (World.block_lt_of_cell? _ _ p0)).trans p0, (hF.cell (World.block_lt_of_cell? _ _ p1)).trans p1, (hF.cell (World.block_lt_of_cell? _ _ p2)).trans p2, (hF.cell (World.block_lt_of_cell? _ _ q0)).trans q0, (hF.cell (World.block_lt_of_cell? _ _ q1)).trans q1, (hF.cell (World.block_lt_of_cell? _ _ q2)).trans q2, (hF.cell (World.block_lt_of_cell? _ _ q3)).trans q3⟩) (fun hHeld => ?_)
              clear hK K
              refine wpAnyH_done (by kernel_rfl) ?_ _
              go_wp2_with (fail)
              go_meet
              case rel => exact ⟨w6.heap.size, rfl, hsz6, Blk.new _ _ _, hF⟩
            · go_simp
              have hBd : Below w2.heap.size w2 (w2.alloc (.cells #[.int .i64 0, .bool false, .slice none 0 0, .string ⟨#[]⟩] 56)).drew := (below_alloc w2 _).trans ⟨rfl, rfl, rfl, Nat.le_refl _, fun _ _ => rfl⟩
              show K _ _
              refine hK.out _ _ (⟨(hBd.cell (World.block_lt_of_cell? _ _ p0)).trans p0, (hBd.cell (World.block_lt_of_cell? _ _ p1)).trans p1, (hBd.cell (World.block_lt_of_cell? _ _ p2)).trans p2, (hBd.cell (World.block_lt_of_cell? _ _ q0)).trans q0, (hBd.cell (World.block_lt_of_cell? _ _ q1)).trans q1, (hBd.cell (World.block_lt_of_cell? _ _ q2)).trans q2, (hBd.cell (World.block_lt_of_cell? _ _ q3)).trans q3⟩) (fun hHeld => ?_)
              clear hK K
              refine wpAnyH_ready (rs := [8]) (by kernel_rfl) (by simp) ?_
              refine AllReadyH.cons rfl (fun K hK => ?_) AllReadyH.nil
              go_simp
              refine (HCA.out _ (HF2.out.st.stm.keep hBd)).mono ?_
              rintro e w6 ⟨rfl, hB6⟩
              show K _ _
              refine hK.out _ _ (⟨(hB6.cell (World.block_lt_of_cell? _ _ hHeld.1)).trans hHeld.1, (hB6.cell (World.block_lt_of_cell? _ _ hHeld.2.1)).trans hHeld.2.1, (hB6.cell (World.block_lt_of_cell? _ _ hHeld.2.2.1)).trans hHeld.2.2.1, (hB6.cell (World.block_lt_of_cell? _ _ hHeld.2.2.2.1)).trans hHeld.2.2.2.1, (hB6.cell (World.block_lt_of_cell? _ _ hHeld.2.2.2.2.1)).trans hHeld.2.2.2.2.1, (hB6.cell (World.block_lt_of_cell? _ _ hHeld.2.2.2.2.2.1)).trans hHeld.2.2.2.2.2.1, (hB6.cell (World.block_lt_of_cell? _ _ hHeld.2.2.2.2.2.2)).trans hHeld.2.2.2.2.2.2⟩) (fun hHeld => ?_)
              clear hK K
              have hlt : w2.heap.size < (w2.alloc (.cells #[.int .i64 0, .bool false, .slice none 0 0, .string ⟨#[]⟩] 56)).drew.heap.size := (Blk.new w2 56 #[.int .i64 0, .bool false, .slice none 0 0, .string ⟨#[]⟩]).lt
              have hG : Blk w6 w2.heap.size 56 #[.int .i64 0, .bool false, .slice none 0 0, .string ⟨#[]⟩] := Blk.of_heap (hB6.block _ hlt) (show Blk (w2.alloc (.cells #[.int .i64 0, .bool false, .slice none 0 0, .string ⟨#[]⟩] 56)).drew w2.heap.size 56 _ from Blk.new w2 _ _)
              have hF0 : Below w2.heap.size w2 w6 := hBd.trans (hB6.mono (Nat.le_of_lt hlt))
              refine wpAnyH_take (i := 9) (oi := ⟨some 48, _, _, _, _, _⟩) (v := .pointer (some ⟨ig, ioff + i * 4, none⟩)) rfl (by kernel_rfl) (by kernel_rfl) (by kernel_rfl) (fun _ _ _ h => h) (Or.inl ⟨by kernel_rfl, fun w hSw => by go_simp⟩) (by assumption) ?_
              simp only [Act.put, lTA, lC0, lCS]
              refine wpAnyH_take (i := 10) (oi := ⟨some 49, _, _, _, _, _⟩) (v := .agg #[.int .i64 xn, .bool dr, .slice EA ne ecap, .string dat]) rfl (by kernel_rfl) (by kernel_rfl) (by kernel_rfl) (fun _ _ _ h => h) (Or.inl ⟨by kernel_rfl, fun w hSw => by go_simp⟩) (by assumption) ?_
              simp only [Act.put, lTA, lC0, lCS]
              have g0 : w6.cell? ⟨w2.heap.size, 0, none⟩ = some (.int .i64 0) := hG.cell 0
              have f0 := hG.frozen 0
              have g1 : w6.cell? ⟨w2.heap.size, 1, none⟩ = some (.bool false) := hG.cell 1
              have f1 := hG.frozen 1
              have g2 : w6.cell? ⟨w2.heap.size, 2, none⟩ = some (.slice none 0 0) := hG.cell 2
              have f2 := hG.frozen 2
              have g3 : w6.cell? ⟨w2.heap.size, 3, none⟩ = some (.string ⟨#[]⟩) := hG.cell 3
              have f3 := hG.frozen 3
              have hF := (((hF0.setCell (p := ⟨w2.heap.size, 0, none⟩) (Nat.le_refl _) (.int .i64 xn)).setCell (p := ⟨w2.heap.size, 1, none⟩) (Nat.le_refl _) (.bool dr)).setCell (p := ⟨w2.heap.size, 2, none⟩) (Nat.le_refl _) (.slice EA ne ecap)).setCell (p := ⟨w2.heap.size, 3, none⟩) (Nat.le_refl _) (.string dat)
              have hN := (((hG.set_ 0 (.int .i64 xn)).set_ 1 (.bool dr)).set_ 2 (.slice EA ne ecap)).set_ 3 (.string dat)
              refine wpAnyH_ready (rs := [12]) (by kernel_rfl) (by simp) ?_
              refine AllReadyH.cons rfl (fun K hK => ?_) AllReadyH.nil
              go_simp
              show K _ _
              refine hK.out _ _ (⟨(hF.cell (World.block_lt_of_cell? _ _ p0)).trans p0, (hF.cell (World.block_lt_of_cell? _ _ p1)).trans p1, (hF.cell (World.block_lt_of_cell? _ _ p2)).trans p2, (hF.cell (World.block_lt_of_cell? _ _ q0)).trans q0, (hF.cell (World.block_lt_of_cell? _ _ q1)).trans q1, (hF.cell (World.block_lt_of_cell? _ _ q2)).trans q2, (hF.cell (World.block_lt_of_cell? _ _ q3)).trans q3⟩) (fun hHeld => ?_)
              clear hK K
              refine wpAnyH_done (by kernel_rfl) ?_ _
              go_wp2_with (fail)
              go_meet
              case rel => exact ⟨w2.heap.size, rfl, Nat.le_refl _, hN, hF⟩
          case rest =>
            obtain ⟨b, rfl, -, hbk, hbc⟩ := hcut
            have HX := Lib.hid hbk
            have HF3 := Lib.hid (HF2.out.below hbc)
            have HB3 := Lib.hid (HB2.out.trans (hbc.bk hbw2))
            obtain ⟨w3, hw3⟩ : ∃ x : World, x = wc := ⟨_, rfl⟩
            have hbw3 : base ≤ w3.heap.size := by rw [hw3]; exact Nat.le_trans hbw2 hbc.size
            subst hw3
            clear p0 p1 p2 q0 q1 q2 q3 hbk hbc HF2 HB2 hbw2 HCA HEW
            have p0 : w3.cell? ⟨ob, 0, none⟩ = some (.slice (some ⟨ig, ioff, none⟩) n cap) := HF3.out.st.c0
            have p1 : w3.cell? ⟨ob, 1, none⟩ = some (.slice OA no ocap) := HF3.out.st.c1
            have p2 : w3.cell? ⟨ob, 2, none⟩ = some (.slice MA nm_ mcap) := HF3.out.st.c2
            have k0 : w3.cell? ⟨cb, 0, none⟩ = some (.int .i64 c.kind) := HF3.out.cB.cell 0
            have k1 : w3.cell? ⟨cb, 1, none⟩ = some (.int .i64 c.core) := HF3.out.cB.cell 1
            have k2 : w3.cell? ⟨cb, 2, none⟩ = some (.int .i64 c.fd) := HF3.out.cB.cell 2
            have k3 : w3.cell? ⟨cb, 3, none⟩ = some (.int .i64 c.off) := HF3.out.cB.cell 3
            have k4 : w3.cell? ⟨cb, 4, none⟩ = some (.int .i64 c.num) := HF3.out.cB.cell 4
            have k5 : w3.cell? ⟨cb, 5, none⟩ = some (.string c.path) := HF3.out.cB.cell 5
            have k6 : w3.cell? ⟨cb, 6, none⟩ = some (.string c.path2) := HF3.out.cB.cell 6
            have k7 : w3.cell? ⟨cb, 7, none⟩ = some (.string c.data) := HF3.out.cB.cell 7
            have x1 : w3.cell? ⟨b, 1, none⟩ = some (.bool dr) := HX.out.cell 1
            have x2 : w3.cell? ⟨b, 2, none⟩ = some (.slice EA ne ecap) := HX.out.cell 2
            have HDROP := Lib.hid (show ∀ (hz : (S.ino i).ents = []), InvB (setE S dnum (dropE nm (S.ino di).ents)) num from fun hz => by
              have hp : (nm, num) ∈ (S.ino di).ents := by
                have := entIn_some (L := (S.ino di).ents) (nm := nm) (by rw [← HEZ.out]; exact HN0.out)
                rwa [← HEZ.out] at this
              exact HI.out.drop HDA.out.mem.1 HDA.out.mem.2 HDD.out (p := (nm, num)) hp HHA.out.mem.1 HHA.out.mem.2 hz)
            have HDC := Lib.hid (drop_calls HF3.out.st hbw3 HI.out.wk HDA.out nm)
            have HDS := Lib.hid (HI.out.drop_small HDA.out.mem.1 (d := dnum) (L := dropE nm (S.ino di).ents) List.filter_sublist)
            by_cases h9 : c.kind = 9
            · have e9 : (c.kind == 9) = true := by rw [h9]; rfl
              clear h9
              rcases bool_tf dr with rfl | rfl
              · go_wp2_with (go_at_call 94; refine (fail2 _ _).mono ?_; rintro e wz ⟨rfl, hBz⟩; have HZ := Lib.hid (HF3.out.below hBz); have r0 : wz.cell? ⟨rb, 0, none⟩ = some (.int .i64 0) := HZ.out.rB.cell 0; have l0 := HZ.out.rB.frozen 0; have r1 : wz.cell? ⟨rb, 1, none⟩ = some (.int .i64 0) := HZ.out.rB.cell 1; have l1 := HZ.out.rB.frozen 1; have r2 : wz.cell? ⟨rb, 2, none⟩ = some (.int .i64 0) := HZ.out.rB.cell 2; have l2 := HZ.out.rB.frozen 2; have r3 : wz.cell? ⟨rb, 3, none⟩ = some (.bool false) := HZ.out.rB.cell 3; have l3 := HZ.out.rB.frozen 3; have r4 : wz.cell? ⟨rb, 4, none⟩ = some (.string ⟨#[]⟩) := HZ.out.rB.cell 4; have l4 := HZ.out.rB.frozen 4; have r5 : wz.cell? ⟨rb, 5, none⟩ = some (.slice none 0 0) := HZ.out.rB.cell 5; have l5 := HZ.out.rB.frozen 5; have HBZ := Lib.hid hBz; clear hBz)
                refine bodyPost_ret (v := .agg #[.int .i64 8, .int .i64 0, .int .i64 0, .bool false, .string ⟨#[]⟩, .slice none 0 0]) ?_ rfl ⟨⟨8, _, _, _, _, _, _, _, rfl, fun h => absurd h (by decide)⟩, Bk.set6 (HB3.out.trans (HBZ.out.bk hbw3)) HZ.out.rb_le (by have := HRB.out; omega) _ _ _ _ _ _⟩
                simp [results, Try.results98, go_sem, r0, r1, r2, r3, r4, r5]
              · have HEZ0 := Lib.hid (show (S.ino i).ents = [] from HI.out.isFile _ HHA.out.mem.1 HDRR.out)
                go_upto_region 21 with (go_at_call 129; refine HDC.out.mono ?_; rintro e w6 ⟨rfl, hB7, hK7, ev6, hT6⟩; have HB7 := Lib.hid (Bk.mk hB7 hK7); have HF6 := Lib.hid (Fr.mk hT6 (hK7.block HF3.out.cB (by decide) (by decide) (by decide)) (hK7.block HF3.out.rB (by decide) (by decide) (by decide)) HF3.out.rb_le); clear hB7 hT6 hK7)
                have hbw6 : base ≤ w6.heap.size := Nat.le_trans hbw3 HB7.out.bel.size
                have HSC := Lib.hid (sweep_calls HF6.out.st hbw6 HDS.out.1 HDS.out.2.1 HDS.out.2.2 num)
                have HSI := Lib.hid (HDROP.out HEZ0.out).sweep
                go_wp2_with (first | (go_at_call 125; refine HSC.out.mono ?_; rintro e w7 ⟨rfl, hB8, hK8, iv7, ev7, hT7⟩; have HB8 := Lib.hid (Bk.mk hB8 hK8); have HF7 := Lib.hid (Fr.mk hT7 (hK8.block HF6.out.cB (by decide) (by decide) (by decide)) (hK8.block HF6.out.rB (by decide) (by decide) (by decide)) HF6.out.rb_le); clear hB8 hT7 hK8) | (go_at_call 94; refine (fail2 _ _).mono ?_; rintro e wz ⟨rfl, hBz⟩; have HZ := Lib.hid (HF7.out.below hBz); have r0 : wz.cell? ⟨rb, 0, none⟩ = some (.int .i64 0) := HZ.out.rB.cell 0; have l0 := HZ.out.rB.frozen 0; have r1 : wz.cell? ⟨rb, 1, none⟩ = some (.int .i64 0) := HZ.out.rB.cell 1; have l1 := HZ.out.rB.frozen 1; have r2 : wz.cell? ⟨rb, 2, none⟩ = some (.int .i64 0) := HZ.out.rB.cell 2; have l2 := HZ.out.rB.frozen 2; have r3 : wz.cell? ⟨rb, 3, none⟩ = some (.bool false) := HZ.out.rB.cell 3; have l3 := HZ.out.rB.frozen 3; have r4 : wz.cell? ⟨rb, 4, none⟩ = some (.string ⟨#[]⟩) := HZ.out.rB.cell 4; have l4 := HZ.out.rB.frozen 4; have r5 : wz.cell? ⟨rb, 5, none⟩ = some (.slice none 0 0) := HZ.out.rB.cell 5; have l5 := HZ.out.rB.frozen 5; have HBZ := Lib.hid hBz; clear hBz))
                have hbw7 : base ≤ w7.heap.size := Nat.le_trans hbw6 HB8.out.bel.size
                refine bodyPost_ret (v := .agg #[.int .i64 0, .int .i64 0, .int .i64 0, .bool false, .string ⟨#[]⟩, .slice none 0 0]) ?_ rfl ⟨⟨0, _, _, _, _, _, _, _, rfl, fun _ => ⟨_, _, _, _, _, HSI.out, HZ.out.st.set6 HZ.out.rB _ _ _ _ _ _⟩⟩, Bk.set6 (HB3.out.trans (HB7.out.trans (HB8.out.trans (HBZ.out.bk hbw7)))) HZ.out.rb_le (by have := HRB.out; omega) _ _ _ _ _ _⟩
                simp [results, Try.results98, go_sem, r0, r1, r2, r3, r4, r5]
            · have e9 : (c.kind == 9) = false := by rw [beq_eq_false_iff_ne]; exact h9
              clear h9
              by_cases h10 : c.kind = 10
              · have e10 : (c.kind == 10) = true := by rw [h10]; rfl
                clear h10
                rcases bool_tf dr with rfl | rfl
                · by_cases hne0 : 0 < ne
                  · have hne1 : (0 : Int) < (ne : Int) := by omega
                    go_wp2_with (go_at_call 94; refine (fail2 _ _).mono ?_; rintro e wz ⟨rfl, hBz⟩; have HZ := Lib.hid (HF3.out.below hBz); have r0 : wz.cell? ⟨rb, 0, none⟩ = some (.int .i64 0) := HZ.out.rB.cell 0; have l0 := HZ.out.rB.frozen 0; have r1 : wz.cell? ⟨rb, 1, none⟩ = some (.int .i64 0) := HZ.out.rB.cell 1; have l1 := HZ.out.rB.frozen 1; have r2 : wz.cell? ⟨rb, 2, none⟩ = some (.int .i64 0) := HZ.out.rB.cell 2; have l2 := HZ.out.rB.frozen 2; have r3 : wz.cell? ⟨rb, 3, none⟩ = some (.bool false) := HZ.out.rB.cell 3; have l3 := HZ.out.rB.frozen 3; have r4 : wz.cell? ⟨rb, 4, none⟩ = some (.string ⟨#[]⟩) := HZ.out.rB.cell 4; have l4 := HZ.out.rB.frozen 4; have r5 : wz.cell? ⟨rb, 5, none⟩ = some (.slice none 0 0) := HZ.out.rB.cell 5; have l5 := HZ.out.rB.frozen 5; have HBZ := Lib.hid hBz; clear hBz)
                    refine bodyPost_ret (v := .agg #[.int .i64 3, .int .i64 0, .int .i64 0, .bool false, .string ⟨#[]⟩, .slice none 0 0]) ?_ rfl ⟨⟨3, _, _, _, _, _, _, _, rfl, fun h => absurd h (by decide)⟩, Bk.set6 (HB3.out.trans (HBZ.out.bk hbw3)) HZ.out.rb_le (by have := HRB.out; omega) _ _ _ _ _ _⟩
                    simp [results, Try.results98, go_sem, r0, r1, r2, r3, r4, r5]
                  · have hne1 : ¬ (0 : Int) < (ne : Int) := by omega
                    have HEZ0 := Lib.hid (show (S.ino i).ents = [] from List.length_eq_zero_iff.1 (by have := HNE.out; unfold St.ne at this; omega))
                    go_upto_region 21 with (go_at_call 129; refine HDC.out.mono ?_; rintro e w6 ⟨rfl, hB7, hK7, ev6, hT6⟩; have HB7 := Lib.hid (Bk.mk hB7 hK7); have HF6 := Lib.hid (Fr.mk hT6 (hK7.block HF3.out.cB (by decide) (by decide) (by decide)) (hK7.block HF3.out.rB (by decide) (by decide) (by decide)) HF3.out.rb_le); clear hB7 hT6 hK7)
                    have hbw6 : base ≤ w6.heap.size := Nat.le_trans hbw3 HB7.out.bel.size
                    have HSC := Lib.hid (sweep_calls HF6.out.st hbw6 HDS.out.1 HDS.out.2.1 HDS.out.2.2 num)
                    have HSI := Lib.hid (HDROP.out HEZ0.out).sweep
                    go_wp2_with (first | (go_at_call 125; refine HSC.out.mono ?_; rintro e w7 ⟨rfl, hB8, hK8, iv7, ev7, hT7⟩; have HB8 := Lib.hid (Bk.mk hB8 hK8); have HF7 := Lib.hid (Fr.mk hT7 (hK8.block HF6.out.cB (by decide) (by decide) (by decide)) (hK8.block HF6.out.rB (by decide) (by decide) (by decide)) HF6.out.rb_le); clear hB8 hT7 hK8) | (go_at_call 94; refine (fail2 _ _).mono ?_; rintro e wz ⟨rfl, hBz⟩; have HZ := Lib.hid (HF7.out.below hBz); have r0 : wz.cell? ⟨rb, 0, none⟩ = some (.int .i64 0) := HZ.out.rB.cell 0; have l0 := HZ.out.rB.frozen 0; have r1 : wz.cell? ⟨rb, 1, none⟩ = some (.int .i64 0) := HZ.out.rB.cell 1; have l1 := HZ.out.rB.frozen 1; have r2 : wz.cell? ⟨rb, 2, none⟩ = some (.int .i64 0) := HZ.out.rB.cell 2; have l2 := HZ.out.rB.frozen 2; have r3 : wz.cell? ⟨rb, 3, none⟩ = some (.bool false) := HZ.out.rB.cell 3; have l3 := HZ.out.rB.frozen 3; have r4 : wz.cell? ⟨rb, 4, none⟩ = some (.string ⟨#[]⟩) := HZ.out.rB.cell 4; have l4 := HZ.out.rB.frozen 4; have r5 : wz.cell? ⟨rb, 5, none⟩ = some (.slice none 0 0) := HZ.out.rB.cell 5; have l5 := HZ.out.rB.frozen 5; have HBZ := Lib.hid hBz; clear hBz))
                    have hbw7 : base ≤ w7.heap.size := Nat.le_trans hbw6 HB8.out.bel.size
                    refine bodyPost_ret (v := .agg #[.int .i64 0, .int .i64 0, .int .i64 0, .bool false, .string ⟨#[]⟩, .slice none 0 0]) ?_ rfl ⟨⟨0, _, _, _, _, _, _, _, rfl, fun _ => ⟨_, _, _, _, _, HSI.out, HZ.out.st.set6 HZ.out.rB _ _ _ _ _ _⟩⟩, Bk.set6 (HB3.out.trans (HB7.out.trans (HB8.out.trans (HBZ.out.bk hbw7)))) HZ.out.rb_le (by have := HRB.out; omega) _ _ _ _ _ _⟩
                    simp [results, Try.results98, go_sem, r0, r1, r2, r3, r4, r5]
                · go_wp2_with (go_at_call 94; refine (fail2 _ _).mono ?_; rintro e wz ⟨rfl, hBz⟩; have HZ := Lib.hid (HF3.out.below hBz); have r0 : wz.cell? ⟨rb, 0, none⟩ = some (.int .i64 0) := HZ.out.rB.cell 0; have l0 := HZ.out.rB.frozen 0; have r1 : wz.cell? ⟨rb, 1, none⟩ = some (.int .i64 0) := HZ.out.rB.cell 1; have l1 := HZ.out.rB.frozen 1; have r2 : wz.cell? ⟨rb, 2, none⟩ = some (.int .i64 0) := HZ.out.rB.cell 2; have l2 := HZ.out.rB.frozen 2; have r3 : wz.cell? ⟨rb, 3, none⟩ = some (.bool false) := HZ.out.rB.cell 3; have l3 := HZ.out.rB.frozen 3; have r4 : wz.cell? ⟨rb, 4, none⟩ = some (.string ⟨#[]⟩) := HZ.out.rB.cell 4; have l4 := HZ.out.rB.frozen 4; have r5 : wz.cell? ⟨rb, 5, none⟩ = some (.slice none 0 0) := HZ.out.rB.cell 5; have l5 := HZ.out.rB.frozen 5; have HBZ := Lib.hid hBz; clear hBz)
                  refine bodyPost_ret (v := .agg #[.int .i64 7, .int .i64 0, .int .i64 0, .bool false, .string ⟨#[]⟩, .slice none 0 0]) ?_ rfl ⟨⟨7, _, _, _, _, _, _, _, rfl, fun h => absurd h (by decide)⟩, Bk.set6 (HB3.out.trans (HBZ.out.bk hbw3)) HZ.out.rb_le (by have := HRB.out; omega) _ _ _ _ _ _⟩
                  simp [results, Try.results98, go_sem, r0, r1, r2, r3, r4, r5]
              · have e10 : (c.kind == 10) = false := by rw [beq_eq_false_iff_ne]; exact h10
                clear h10 HDC HDS HDROP
                have HMU := Lib.hid (rename_calls HF3.out.st hbw3 HI.out c HDA.out HDD.out (name := nm) HNU.out HN0.out)
                go_wp2_with (go_at_call 128; refine HMU.out.mono ?_; rintro e wM ⟨⟨mc, mfd, mnum, mdr, mdat, mA, ml, mcp, rfl, hm⟩, hB⟩; have HMM := Lib.hid hm; have HBM := Lib.hid hB; have HRBZ := Lib.hid (hB.kp.block HF3.out.rB (by decide) (by decide) (by decide)); have HRBL := Lib.hid HF3.out.rb_le; have r0 : wM.cell? ⟨rb, 0, none⟩ = some (.int .i64 0) := HRBZ.out.cell 0; have l0 := HRBZ.out.frozen 0; have r1 : wM.cell? ⟨rb, 1, none⟩ = some (.int .i64 0) := HRBZ.out.cell 1; have l1 := HRBZ.out.frozen 1; have r2 : wM.cell? ⟨rb, 2, none⟩ = some (.int .i64 0) := HRBZ.out.cell 2; have l2 := HRBZ.out.frozen 2; have r3 : wM.cell? ⟨rb, 3, none⟩ = some (.bool false) := HRBZ.out.cell 3; have l3 := HRBZ.out.frozen 3; have r4 : wM.cell? ⟨rb, 4, none⟩ = some (.string ⟨#[]⟩) := HRBZ.out.cell 4; have l4 := HRBZ.out.frozen 4; have r5 : wM.cell? ⟨rb, 5, none⟩ = some (.slice none 0 0) := HRBZ.out.cell 5; have l5 := HRBZ.out.frozen 5; clear hm hB)
                refine bodyPost_ret (v := .agg #[.int .i64 mc, .int .i64 mfd, .int .i64 mnum, .bool mdr, .string mdat, .slice mA ml mcp]) ?_ rfl ⟨⟨mc, _, _, _, _, _, _, _, rfl, fun h => by obtain ⟨iv', ov', mv', ev', S', h1, h2⟩ := HMM.out h; exact ⟨iv', ov', mv', ev', S', h1, h2.set6 HRBZ.out _ _ _ _ _ _⟩⟩, Bk.set6 (HB3.out.trans HBM.out) HRBL.out (by have := HRB.out; omega) _ _ _ _ _ _⟩
                simp [results, Try.results98, go_sem, r0, r1, r2, r3, r4, r5]
      · have hd1 : (code2 != 0) = true := by simpa using hd0
        have HC0 := Lib.hid hd0
        clear hd0
        go_wp2_with (go_at_call 94; refine (fail2 _ _).mono ?_; rintro e wz ⟨rfl, hBz⟩; have HZ := Lib.hid (HF1.out.below hBz); have r0 : wz.cell? ⟨rb, 0, none⟩ = some (.int .i64 0) := HZ.out.rB.cell 0; have l0 := HZ.out.rB.frozen 0; have r1 : wz.cell? ⟨rb, 1, none⟩ = some (.int .i64 0) := HZ.out.rB.cell 1; have l1 := HZ.out.rB.frozen 1; have r2 : wz.cell? ⟨rb, 2, none⟩ = some (.int .i64 0) := HZ.out.rB.cell 2; have l2 := HZ.out.rB.frozen 2; have r3 : wz.cell? ⟨rb, 3, none⟩ = some (.bool false) := HZ.out.rB.cell 3; have l3 := HZ.out.rB.frozen 3; have r4 : wz.cell? ⟨rb, 4, none⟩ = some (.string ⟨#[]⟩) := HZ.out.rB.cell 4; have l4 := HZ.out.rB.frozen 4; have r5 : wz.cell? ⟨rb, 5, none⟩ = some (.slice none 0 0) := HZ.out.rB.cell 5; have l5 := HZ.out.rB.frozen 5; have HBZ := Lib.hid hBz; clear hBz)
        refine bodyPost_ret (v := .agg #[.int .i64 code2, .int .i64 0, .int .i64 0, .bool false, .string ⟨#[]⟩, .slice none 0 0]) ?_ rfl ⟨⟨code2, _, _, _, _, _, _, _, rfl, fun h => absurd h (HC0.out)⟩, Bk.set6 (HB1.out.trans (HBZ.out.bk hbw1)) HZ.out.rb_le (by have := HRB.out; omega) _ _ _ _ _ _⟩
        simp [results, Try.results98, go_sem, r0, r1, r2, r3, r4, r5]
end Go.Proofs.Ytenlffhoinialaa
