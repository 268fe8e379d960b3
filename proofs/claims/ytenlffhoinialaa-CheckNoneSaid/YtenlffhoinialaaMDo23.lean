/- The document's rename. (Printed in part by genact13.py.) -/
import Derived.Test.YtenlffhoinialaaMDo22
namespace Go.Proofs.Ytenlffhoinialaa
open Go.RowKit
set_option maxHeartbeats 2000000
attribute [local go_sem ↓] Go.wp_at_zero Go.wp_at_succ
theorem fullN_drop (L : List (ByteArray × Int)) (nm but : ByteArray) : fullN L nm but = ((dropE but L).filter fun e => nbucket e.1 == nbucket nm).length := by
  unfold fullN dropE
  rw [List.filter_filter]
  congr 1
  refine List.filter_congr fun e _ => ?_
  unfold inB
  rw [Bool.and_comm]
set_option maxRecDepth 1000000 in
theorem rename_calls {w : World} {base ob : Nat} {iv ov mv : Value} {ev : Nat → Value} {S : St} (hT : StT w base ob iv ov mv ev S) (hbw : base ≤ w.heap.size) (hI : Inv S) (c : CallD) {dir : Int} {di : Nat} (hd : HasAt S dir di) (hdd : S.dir di = true) {name : ByteArray} {num : Int} (hen : entF S dir name = num) (hn0 : num ≠ 0) :
    Calls Try.prog 128 #[.pointer (some ⟨ob, 0, none⟩), .agg #[.int .i64 c.kind, .int .i64 c.core, .int .i64 c.fd, .int .i64 c.off, .int .i64 c.num, .string c.path, .string c.path2, .string c.data], .int .i64 dir, .string name, .int .i64 num] w fun e w' => MutR base ob w' e ∧ Bk base w w' := by
  obtain ⟨i, hha⟩ : Has S num := by have := hI.has_ent hd (nm := name) (by rw [hen]; exact hn0); rwa [hen] at this
  have HPE := Lib.hid (show (name, num) ∈ (S.ino di).ents by
    rw [entF_at hd] at hen
    have := entIn_some (L := (S.ino di).ents) (nm := name) (by rw [hen]; exact hn0)
    rwa [hen] at this)
  have HDA := Lib.hid hd
  have HDD := Lib.hid (show (S.ino di).dir = true from hdd)
  have HHA := Lib.hid hha
  obtain ⟨A, cap, rfl⟩ := hT.row.ino.at'.form
  obtain ⟨OA, ocap, rfl⟩ := hT.row.opn.at'.form
  obtain ⟨MA, mcap, rfl⟩ := hT.row.mad.at'.form
  have hni := hI.ni
  have HI := Lib.hid hI
  have HF0 := Lib.hid (Fr.lay hT hbw c)
  have HBL := Lib.hid (Fr.lay_below w (.cells #[.int .i64 c.kind, .int .i64 c.core, .int .i64 c.fd, .int .i64 c.off, .int .i64 c.num, .string c.path, .string c.path2, .string c.data] 51) (.cells #[.int .i64 0, .int .i64 0, .int .i64 0, .bool false, .string ⟨#[]⟩, .slice none 0 0] 47))
  obtain ⟨n, hnn⟩ : ∃ n, S.inodes.length = n := ⟨_, rfl⟩
  obtain ⟨no, hno⟩ : ∃ n, S.opens.length = n := ⟨_, rfl⟩
  obtain ⟨nm_, hnm⟩ : ∃ n, S.made.length = n := ⟨_, rfl⟩
  have HNN := Lib.hid hnn
  have HNO := Lib.hid hno
  have HNM := Lib.hid hnm
  rw [hnn, hno, hnm] at HF0
  rw [hnn] at hni
  clear hT hI hnn hno hnm
  clear hd hdd hen hn0
  have hil : i < n := by have := hha.1; rwa [HNN.out] at this
  have hda := hha.2.1
  clear hha
  have hil1 : (i : Int) < (n : Int) := by omega
  have hil2 : (0 : Int) ≤ (i : Int) := by omega
  have ei : IntKind.i64.wrap (i : Int) = (i : Int) := IntWalk.i64_in _ (by omega)
  go_enter Try.func128, Try.ntmps128
  go_upto_region 1 with (fail)
  obtain ⟨cb, hcb⟩ : ∃ x, x = w.heap.size := ⟨_, rfl⟩
  have HCB := Lib.hid hcb
  obtain ⟨rb, hrb⟩ : ∃ x, x = w.heap.size + 1 := ⟨_, rfl⟩
  have HRB := Lib.hid hrb
  rw [← hrb, ← hcb] at HF0
  rw [← hrb, ← hcb]
  clear hcb hrb
  generalize (w.alloc (.cells #[.int .i64 c.kind, .int .i64 c.core, .int .i64 c.fd, .int .i64 c.off, .int .i64 c.num, .string c.path, .string c.path2, .string c.data] 51)).alloc (.cells #[.int .i64 0, .int .i64 0, .int .i64 0, .bool false, .string ⟨#[]⟩, .slice none 0 0] 47) = w0 at *
  have HB0 := Lib.hid (HBL.out.bk hbw)
  have hbw0 : base ≤ w0.heap.size := by have := HBL.out.size; omega
  clear HBL
  have p0 : w0.cell? ⟨ob, 0, none⟩ = some (.slice A n cap) := HF0.out.st.c0
  have p1 : w0.cell? ⟨ob, 1, none⟩ = some (.slice OA no ocap) := HF0.out.st.c1
  have p2 : w0.cell? ⟨ob, 2, none⟩ = some (.slice MA nm_ mcap) := HF0.out.st.c2
  have k6 : w0.cell? ⟨cb, 6, none⟩ = some (.string c.path2) := HF0.out.cB.cell 6
  go_cut [11, 12, 13] (fun s1 s2 s3 wx => ∃ to_ nm code2, s1 = .int .i64 to_ ∧ s2 = .string nm ∧ s3 = .int .i64 code2 ∧ ParentR S to_ nm code2 ∧ Below w0.heap.size w0 wx)
  case first =>
    refine wp_region_held_drew (S := fun w' => (w'.cell? ⟨ob, 0, none⟩ = some (.slice A n cap) ∧ w'.cell? ⟨ob, 1, none⟩ = some (.slice OA no ocap) ∧ w'.cell? ⟨ob, 2, none⟩ = some (.slice MA nm_ mcap) ∧ w'.cell? ⟨cb, 6, none⟩ = some (.string c.path2))) (by kernel_rfl) (⟨p0, p1, p2, k6⟩) (fun hHeld => ?_)
    refine wpAnyH_take (i := 0) (oi := ⟨some 16, _, _, _, _, _⟩) (v := .pointer (some ⟨ob, 0, none⟩)) rfl (by kernel_rfl) (by kernel_rfl) (by kernel_rfl) (fun _ _ _ h => h) (Or.inl ⟨by kernel_rfl, fun w hSw => by go_simp⟩) (by assumption) ?_
    simp only [Act.put, lTA, lC0, lCS]
    refine wpAnyH_take (i := 1) (oi := ⟨some 17, _, _, _, _, _⟩) (v := .pointer (some ⟨ob, 0, none⟩)) rfl (by kernel_rfl) (by kernel_rfl) (by kernel_rfl) (fun _ _ _ h => h) (Or.inl ⟨by kernel_rfl, fun w hSw => by go_simp⟩) (by assumption) ?_
    simp only [Act.put, lTA, lC0, lCS]
    refine wpAnyH_take (i := 2) (oi := ⟨some 18, _, _, _, _, _⟩) (v := .agg #[.slice A n cap, .slice OA no ocap, .slice MA nm_ mcap]) rfl (by kernel_rfl) (by kernel_rfl) (by kernel_rfl) (fun _ _ _ h => h) (Or.inl ⟨by kernel_rfl, fun w hSw => by go_simp⟩) (by assumption) ?_
    simp only [Act.put, lTA, lC0, lCS]
    refine wpAnyH_take (i := 3) (oi := ⟨some 19, _, _, _, _, _⟩) (v := .pointer (some ⟨cb, 6, none⟩)) rfl (by kernel_rfl) (by kernel_rfl) (by kernel_rfl) (fun _ _ _ h => h) (Or.inl ⟨by kernel_rfl, fun w hSw => by go_simp⟩) (by assumption) ?_
    simp only [Act.put, lTA, lC0, lCS]
    refine wpAnyH_take (i := 4) (oi := ⟨some 20, _, _, _, _, _⟩) (v := .string c.path2) rfl (by kernel_rfl) (by kernel_rfl) (by kernel_rfl) (fun _ _ _ h => h) (Or.inl ⟨by kernel_rfl, fun w hSw => by go_simp⟩) (by assumption) ?_
    simp only [Act.put, lTA, lC0, lCS]
    refine wpAnyH_ready (rs := [5]) (by kernel_rfl) (by simp) ?_
    refine AllReadyH.cons rfl (fun K hK => ?_) AllReadyH.nil
    go_simp
    refine (Parent_calls (HF0.out.st.stm.keep (below_drew1 w0)) HI.out c.path2).mono ?_
    rintro e wP ⟨to_, nm, code2, rfl, hpr, hBP⟩
    show K _ _
    refine hK.out _ _ (⟨(hBP.cell (World.block_lt_of_cell? _ _ hHeld.1)).trans hHeld.1, (hBP.cell (World.block_lt_of_cell? _ _ hHeld.2.1)).trans hHeld.2.1, (hBP.cell (World.block_lt_of_cell? _ _ hHeld.2.2.1)).trans hHeld.2.2.1, (hBP.cell (World.block_lt_of_cell? _ _ hHeld.2.2.2)).trans hHeld.2.2.2⟩) (fun hHeld => ?_)
    clear hK K
    refine wpAnyH_take (i := 6) (oi := ⟨some 15, _, _, _, _, _⟩) (v := .tuple #[.int .i64 to_, .string nm, .int .i64 code2]) rfl (by kernel_rfl) (by kernel_rfl) (by kernel_rfl) (fun _ _ _ h => h) (Or.inl ⟨by kernel_rfl, fun w hSw => by go_simp⟩) (by assumption) ?_
    simp only [Act.put, lTA, lC0, lCS]
    refine wpAnyH_take (i := 7) (oi := ⟨some 22, _, _, _, _, _⟩) (v := .int .i64 to_) rfl (by kernel_rfl) (by kernel_rfl) (by kernel_rfl) (fun _ _ _ h => h) (Or.inl ⟨by kernel_rfl, fun w hSw => by go_simp⟩) (by assumption) ?_
    simp only [Act.put, lTA, lC0, lCS]
    refine wpAnyH_take (i := 8) (oi := ⟨some 23, _, _, _, _, _⟩) (v := .string nm) rfl (by kernel_rfl) (by kernel_rfl) (by kernel_rfl) (fun _ _ _ h => h) (Or.inl ⟨by kernel_rfl, fun w hSw => by go_simp⟩) (by assumption) ?_
    simp only [Act.put, lTA, lC0, lCS]
    refine wpAnyH_take (i := 9) (oi := ⟨some 24, _, _, _, _, _⟩) (v := .int .i64 code2) rfl (by kernel_rfl) (by kernel_rfl) (by kernel_rfl) (fun _ _ _ h => h) (Or.inl ⟨by kernel_rfl, fun w hSw => by go_simp⟩) (by assumption) ?_
    simp only [Act.put, lTA, lC0, lCS]
    refine wpAnyH_take (i := 10) (oi := ⟨some 11, _, _, _, _, _⟩) (v := .int .i64 to_) rfl (by kernel_rfl) (by kernel_rfl) (by kernel_rfl) (fun _ _ _ h => h) (Or.inl ⟨by kernel_rfl, fun w hSw => by go_simp⟩) (by assumption) ?_
    simp only [Act.put, lTA, lC0, lCS]
    refine wpAnyH_take (i := 11) (oi := ⟨some 12, _, _, _, _, _⟩) (v := .string nm) rfl (by kernel_rfl) (by kernel_rfl) (by kernel_rfl) (fun _ _ _ h => h) (Or.inl ⟨by kernel_rfl, fun w hSw => by go_simp⟩) (by assumption) ?_
    simp only [Act.put, lTA, lC0, lCS]
    refine wpAnyH_take (i := 12) (oi := ⟨some 13, _, _, _, _, _⟩) (v := .int .i64 code2) rfl (by kernel_rfl) (by kernel_rfl) (by kernel_rfl) (fun _ _ _ h => h) (Or.inl ⟨by kernel_rfl, fun w hSw => by go_simp⟩) (by assumption) ?_
    simp only [Act.put, lTA, lC0, lCS]
    refine wpAnyH_done (by kernel_rfl) ?_ _
    go_wp2_with (fail)
    go_meet
    case rel => exact ⟨_, _, _, rfl, rfl, rfl, hpr, (below_drew1 w0).trans hBP⟩
  case rest =>
    obtain ⟨to_, nm, code2, rfl, rfl, rfl, hpr, hbc⟩ := hcut
    have HPR := Lib.hid hpr
    have HF1 := Lib.hid (HF0.out.below hbc)
    have HB1 := Lib.hid (HB0.out.trans (hbc.bk hbw0))
    obtain ⟨w1, hw1⟩ : ∃ x : World, x = wc := ⟨_, rfl⟩
    have hbw1 : base ≤ w1.heap.size := by rw [hw1]; exact Nat.le_trans hbw0 hbc.size
    subst hw1
    clear p0 p1 p2 k6 hpr hbc HF0 HB0 hbw0
    obtain ⟨tb, htb⟩ : ∃ b, (to_ == dir) = b := ⟨_, rfl⟩
    have HTB := Lib.hid htb
    go_upto_if 27 with (fail)
    go_cut [14] (fun s wx => s = .string (if tb = true then name else ⟨#[]⟩) ∧ w1 = wx)
    case first =>
      rcases bool_tf tb with rfl | rfl
      · go_wp2_with (fail)
        go_meet
        case rel => exact ⟨rfl, rfl⟩
      · go_wp2_with (fail)
        go_meet
        case rel => exact ⟨rfl, rfl⟩
    case rest =>
      obtain ⟨rfl, rfl⟩ := hcut
      clear htb
      have HBUT := Lib.hid (show ∀ L : List (ByteArray × Int), (∀ e ∈ L, ncheck e.1 = 0) → fullN L nm (if tb = true then name else ⟨#[]⟩) = ((if tb = true then dropE name L else L).filter fun e => nbucket e.1 == nbucket nm).length from fun L h => by
        rcases bool_tf tb with rfl | rfl
        · exact fullN_drop L nm name
        · exact fullN_all h nm)
      generalize (if tb = true then name else (⟨#[]⟩ : ByteArray)) = but at *
      by_cases hc0 : code2 = 0
      · subst hc0
        obtain ⟨⟨ti, hta, htdir⟩, hnm⟩ := (HPR.out.resolve_left (fun h => h rfl)).2
        have HTA := Lib.hid hta
        have HTD := Lib.hid (show (S.ino ti).dir = true from htdir)
        have HNM_ := Lib.hid hnm
        have HNSZ := Lib.hid (ncheck_size hnm)
        have HDD2 := Lib.hid (show ∀ x ∈ S.inodes, x.num = to_ → x.dir = true from fun x hx e => by
          have : x = S.ino ti := HI.out.ino_inj hx hta.mem.1 (by rw [e, hta.mem.2])
          rw [this]; exact htdir)
        clear hta htdir hnm
        obtain ⟨-, -, ig, ioff, rfl, hcell⟩ := (show RowAt w1 (.slice A n cap) n 4 (inoC S ev) by have := HF1.out.st.stm.ino; rwa [HNN.out] at this).at_ hil
        have q1 : w1.cell? ⟨ig, ioff + i * 4 + 1, none⟩ = some (.bool (S.dir i)) := hcell 1 (by omega)
        have p0 : w1.cell? ⟨ob, 0, none⟩ = some (.slice (some ⟨ig, ioff, none⟩) n cap) := HF1.out.st.c0
        have p1 : w1.cell? ⟨ob, 1, none⟩ = some (.slice OA no ocap) := HF1.out.st.c1
        have p2 : w1.cell? ⟨ob, 2, none⟩ = some (.slice MA nm_ mcap) := HF1.out.st.c2
        have HCA := Lib.hid (fun W hW => by have := At_calls (S := S) (w := W) (iv := .slice (some ⟨ig, ioff, none⟩) n cap) (ov := .slice OA no ocap) (mv := .slice MA nm_ mcap) (ev := ev) hW (by rw [HNN.out]; omega) num; rwa [hda] at this)
        obtain ⟨dv, hdv⟩ : ∃ x, S.dir i = x := ⟨_, rfl⟩
        have HDR := Lib.hid hdv
        rw [hdv] at q1
        clear hcell hda hdv
        go_upto_region 7 with (fail)
        go_cut [34] (fun s wx => ∃ b, s = .bool b ∧ (b = false → ¬ From S num to_) ∧ Below w1.heap.size w1 wx)
        case first =>
          rcases bool_tf dv with rfl | rfl
          · have HWI := Lib.hid (fun W hW => by
              obtain ⟨l, hl⟩ := chain_of_reach (HI.out.reach _ HHA.out.mem.1 HDR.out)
              rw [HHA.out.mem.2] at hl
              exact within_calls (S := S) HI.out (iv := .slice (some ⟨ig, ioff, none⟩) n cap) (ov := .slice OA no ocap) (mv := .slice MA nm_ mcap) (ev := ev) HDD2.out S.inodes.length num i l HHA.out HDR.out hl (by omega) W hW)
            refine wp_region_held_drew (S := fun w' => (w'.cell? ⟨ob, 0, none⟩ = some (.slice (some ⟨ig, ioff, none⟩) n cap) ∧ w'.cell? ⟨ob, 1, none⟩ = some (.slice OA no ocap) ∧ w'.cell? ⟨ob, 2, none⟩ = some (.slice MA nm_ mcap) ∧ w'.cell? ⟨ig, ioff + i * 4 + 1, none⟩ = some (.bool true))) (by kernel_rfl) (⟨p0, p1, p2, q1⟩) (fun hHeld => ?_)
            refine wpAnyH_take (i := 0) (oi := ⟨some 35, _, _, _, _, _⟩) (v := .pointer (some ⟨ob, 0, none⟩)) rfl (by kernel_rfl) (by kernel_rfl) (by kernel_rfl) (fun _ _ _ h => h) (Or.inl ⟨by kernel_rfl, fun w hSw => by go_simp⟩) (by assumption) ?_
            simp only [Act.put, lTA, lC0, lCS]
            refine wpAnyH_take (i := 1) (oi := ⟨some 36, _, _, _, _, _⟩) (v := .pointer (some ⟨ob, 0, none⟩)) rfl (by kernel_rfl) (by kernel_rfl) (by kernel_rfl) (fun _ _ _ h => h) (Or.inl ⟨by kernel_rfl, fun w hSw => by go_simp⟩) (by assumption) ?_
            simp only [Act.put, lTA, lC0, lCS]
            refine wpAnyH_take (i := 2) (oi := ⟨some 37, _, _, _, _, _⟩) (v := .pointer (some ⟨ob, 0, none⟩)) rfl (by kernel_rfl) (by kernel_rfl) (by kernel_rfl) (fun _ _ _ h => h) (Or.inl ⟨by kernel_rfl, fun w hSw => by go_simp⟩) (by assumption) ?_
            simp only [Act.put, lTA, lC0, lCS]
            refine wpAnyH_take (i := 3) (oi := ⟨some 38, _, _, _, _, _⟩) (v := .slice (some ⟨ig, ioff, none⟩) n cap) rfl (by kernel_rfl) (by kernel_rfl) (by kernel_rfl) (fun _ _ _ h => h) (Or.inl ⟨by kernel_rfl, fun w hSw => by go_simp⟩) (by assumption) ?_
            simp only [Act.put, lTA, lC0, lCS]
            refine wpAnyH_take (i := 4) (oi := ⟨some 39, _, _, _, _, _⟩) (v := .pointer (some ⟨ob, 0, none⟩)) rfl (by kernel_rfl) (by kernel_rfl) (by kernel_rfl) (fun _ _ _ h => h) (Or.inl ⟨by kernel_rfl, fun w hSw => by go_simp⟩) (by assumption) ?_
            simp only [Act.put, lTA, lC0, lCS]
            refine wpAnyH_take (i := 5) (oi := ⟨some 40, _, _, _, _, _⟩) (v := .pointer (some ⟨ob, 0, none⟩)) rfl (by kernel_rfl) (by kernel_rfl) (by kernel_rfl) (fun _ _ _ h => h) (Or.inl ⟨by kernel_rfl, fun w hSw => by go_simp⟩) (by assumption) ?_
            simp only [Act.put, lTA, lC0, lCS]
            refine wpAnyH_take (i := 6) (oi := ⟨some 41, _, _, _, _, _⟩) (v := .agg #[.slice (some ⟨ig, ioff, none⟩) n cap, .slice OA no ocap, .slice MA nm_ mcap]) rfl (by kernel_rfl) (by kernel_rfl) (by kernel_rfl) (fun _ _ _ h => h) (Or.inl ⟨by kernel_rfl, fun w hSw => by go_simp⟩) (by assumption) ?_
            simp only [Act.put, lTA, lC0, lCS]
            refine wpAnyH_take (i := 7) (oi := ⟨some 42, _, _, _, _, _⟩) (v := .int .i64 num) rfl (by kernel_rfl) (by kernel_rfl) (by kernel_rfl) (fun _ _ _ h => h) (Or.inl ⟨by kernel_rfl, fun w hSw => by go_simp⟩) (by assumption) ?_
            simp only [Act.put, lTA, lC0, lCS]
            refine wpAnyH_ready (rs := [8]) (by kernel_rfl) (by simp) ?_
            refine AllReadyH.cons rfl (fun K hK => ?_) AllReadyH.nil
            go_simp
            refine (HCA.out _ (HF1.out.st.stm.keep (below_drew1 w1))).mono ?_
            rintro e w5 ⟨rfl, hB5⟩
            show K _ _
            refine hK.out _ _ (⟨(hB5.cell (World.block_lt_of_cell? _ _ hHeld.1)).trans hHeld.1, (hB5.cell (World.block_lt_of_cell? _ _ hHeld.2.1)).trans hHeld.2.1, (hB5.cell (World.block_lt_of_cell? _ _ hHeld.2.2.1)).trans hHeld.2.2.1, (hB5.cell (World.block_lt_of_cell? _ _ hHeld.2.2.2)).trans hHeld.2.2.2⟩) (fun hHeld => ?_)
            clear hK K
            refine wpAnyH_take (i := 9) (oi := ⟨some 44, _, _, _, _, _⟩) (v := .pointer (some ⟨ig, ioff + i * 4, none⟩)) rfl (by kernel_rfl) (by kernel_rfl) (by kernel_rfl) (fun _ _ _ h => h) (Or.inl ⟨by kernel_rfl, fun w hSw => by go_simp⟩) (by assumption) ?_
            simp only [Act.put, lTA, lC0, lCS]
            refine wpAnyH_take (i := 10) (oi := ⟨some 45, _, _, _, _, _⟩) (v := .pointer (some ⟨ig, ioff + i * 4 + 1, none⟩)) rfl (by kernel_rfl) (by kernel_rfl) (by kernel_rfl) (fun _ _ _ h => h) (Or.inl ⟨by kernel_rfl, fun w hSw => by go_simp⟩) (by assumption) ?_
            simp only [Act.put, lTA, lC0, lCS]
            refine wpAnyH_take (i := 11) (oi := ⟨some 46, _, _, _, _, _⟩) (v := .bool true) rfl (by kernel_rfl) (by kernel_rfl) (by kernel_rfl) (fun _ _ _ h => h) (Or.inl ⟨by kernel_rfl, fun w hSw => by go_simp⟩) (by assumption) ?_
            simp only [Act.put, lTA, lC0, lCS]
            refine wpAnyH_take (i := 12) (oi := ⟨some 47, _, _, _, _, _⟩) (v := .bool true) rfl (by kernel_rfl) (by kernel_rfl) (by kernel_rfl) (fun _ _ _ h => h) (Or.inl ⟨by kernel_rfl, fun w hSw => by go_simp⟩) (by assumption) ?_
            simp only [Act.put, lTA, lC0, lCS]
            refine wpAnyH_take (i := 13) (oi := ⟨some 48, _, _, _, _, _⟩) (v := .pointer (some ⟨ob, 0, none⟩)) rfl (by kernel_rfl) (by kernel_rfl) (by kernel_rfl) (fun _ _ _ h => h) (Or.inl ⟨by kernel_rfl, fun w hSw => by go_simp⟩) (by assumption) ?_
            simp only [Act.put, lTA, lC0, lCS]
            refine wpAnyH_take (i := 14) (oi := ⟨some 49, _, _, _, _, _⟩) (v := .pointer (some ⟨ob, 0, none⟩)) rfl (by kernel_rfl) (by kernel_rfl) (by kernel_rfl) (fun _ _ _ h => h) (Or.inl ⟨by kernel_rfl, fun w hSw => by go_simp⟩) (by assumption) ?_
            simp only [Act.put, lTA, lC0, lCS]
            refine wpAnyH_take (i := 15) (oi := ⟨some 50, _, _, _, _, _⟩) (v := .agg #[.slice (some ⟨ig, ioff, none⟩) n cap, .slice OA no ocap, .slice MA nm_ mcap]) rfl (by kernel_rfl) (by kernel_rfl) (by kernel_rfl) (fun _ _ _ h => h) (Or.inl ⟨by kernel_rfl, fun w hSw => by go_simp⟩) (by assumption) ?_
            simp only [Act.put, lTA, lC0, lCS]
            refine wpAnyH_take (i := 16) (oi := ⟨some 51, _, _, _, _, _⟩) (v := .int .i64 to_) rfl (by kernel_rfl) (by kernel_rfl) (by kernel_rfl) (fun _ _ _ h => h) (Or.inl ⟨by kernel_rfl, fun w hSw => by go_simp⟩) (by assumption) ?_
            simp only [Act.put, lTA, lC0, lCS]
            refine wpAnyH_take (i := 17) (oi := ⟨some 52, _, _, _, _, _⟩) (v := .int .i64 num) rfl (by kernel_rfl) (by kernel_rfl) (by kernel_rfl) (fun _ _ _ h => h) (Or.inl ⟨by kernel_rfl, fun w hSw => by go_simp⟩) (by assumption) ?_
            simp only [Act.put, lTA, lC0, lCS]
            refine wpAnyH_ready (rs := [18]) (by kernel_rfl) (by simp) ?_
            refine AllReadyH.cons rfl (fun K hK => ?_) AllReadyH.nil
            go_simp
            refine (HWI.out _ (HF1.out.st.stm.keep ((below_drew1 w1).trans hB5))).mono ?_
            rintro e w7 ⟨⟨b, rfl, hbf⟩, hB7⟩
            show K _ _
            refine hK.out _ _ (⟨(hB7.cell (World.block_lt_of_cell? _ _ hHeld.1)).trans hHeld.1, (hB7.cell (World.block_lt_of_cell? _ _ hHeld.2.1)).trans hHeld.2.1, (hB7.cell (World.block_lt_of_cell? _ _ hHeld.2.2.1)).trans hHeld.2.2.1, (hB7.cell (World.block_lt_of_cell? _ _ hHeld.2.2.2)).trans hHeld.2.2.2⟩) (fun hHeld => ?_)
            clear hK K
            refine wpAnyH_take (i := 19) (oi := ⟨some 54, _, _, _, _, _⟩) (v := .bool b) rfl (by kernel_rfl) (by kernel_rfl) (by kernel_rfl) (fun _ _ _ h => h) (Or.inl ⟨by kernel_rfl, fun w hSw => by go_simp⟩) (by assumption) ?_
            simp only [Act.put, lTA, lC0, lCS]
            refine wpAnyH_take (i := 20) (oi := ⟨some 34, _, _, _, _, _⟩) (v := .bool b) rfl (by kernel_rfl) (by kernel_rfl) (by kernel_rfl) (fun _ _ _ h => h) (Or.inl ⟨by kernel_rfl, fun w hSw => by go_simp⟩) (by assumption) ?_
            simp only [Act.put, lTA, lC0, lCS]
            refine wpAnyH_done (by kernel_rfl) ?_ _
            go_wp2_with (fail)
            go_meet
            case rel => exact ⟨b, rfl, hbf, (below_drew1 w1).trans (hB5.trans (hB7.mono hB5.size))⟩
          · have HFN := Lib.hid (show ¬ From S num to_ from fun h => by
              have h1 := HI.out.from_file HHA.out.mem.1 HDR.out (t := to_) (by rw [HHA.out.mem.2]; exact h)
              have h2 := HDD2.out _ HHA.out.mem.1 h1.symm
              rw [show (S.ino i).dir = false from HDR.out] at h2
              cases h2)
            refine wp_region_held_drew (S := fun w' => (w'.cell? ⟨ob, 0, none⟩ = some (.slice (some ⟨ig, ioff, none⟩) n cap) ∧ w'.cell? ⟨ob, 1, none⟩ = some (.slice OA no ocap) ∧ w'.cell? ⟨ob, 2, none⟩ = some (.slice MA nm_ mcap) ∧ w'.cell? ⟨ig, ioff + i * 4 + 1, none⟩ = some (.bool false))) (by kernel_rfl) (⟨p0, p1, p2, q1⟩) (fun hHeld => ?_)
            refine wpAnyH_take (i := 0) (oi := ⟨some 35, _, _, _, _, _⟩) (v := .pointer (some ⟨ob, 0, none⟩)) rfl (by kernel_rfl) (by kernel_rfl) (by kernel_rfl) (fun _ _ _ h => h) (Or.inl ⟨by kernel_rfl, fun w hSw => by go_simp⟩) (by assumption) ?_
            simp only [Act.put, lTA, lC0, lCS]
            refine wpAnyH_take (i := 1) (oi := ⟨some 36, _, _, _, _, _⟩) (v := .pointer (some ⟨ob, 0, none⟩)) rfl (by kernel_rfl) (by kernel_rfl) (by kernel_rfl) (fun _ _ _ h => h) (Or.inl ⟨by kernel_rfl, fun w hSw => by go_simp⟩) (by assumption) ?_
            simp only [Act.put, lTA, lC0, lCS]
            refine wpAnyH_take (i := 2) (oi := ⟨some 37, _, _, _, _, _⟩) (v := .pointer (some ⟨ob, 0, none⟩)) rfl (by kernel_rfl) (by kernel_rfl) (by kernel_rfl) (fun _ _ _ h => h) (Or.inl ⟨by kernel_rfl, fun w hSw => by go_simp⟩) (by assumption) ?_
            simp only [Act.put, lTA, lC0, lCS]
            refine wpAnyH_take (i := 3) (oi := ⟨some 38, _, _, _, _, _⟩) (v := .slice (some ⟨ig, ioff, none⟩) n cap) rfl (by kernel_rfl) (by kernel_rfl) (by kernel_rfl) (fun _ _ _ h => h) (Or.inl ⟨by kernel_rfl, fun w hSw => by go_simp⟩) (by assumption) ?_
            simp only [Act.put, lTA, lC0, lCS]
            refine wpAnyH_take (i := 4) (oi := ⟨some 39, _, _, _, _, _⟩) (v := .pointer (some ⟨ob, 0, none⟩)) rfl (by kernel_rfl) (by kernel_rfl) (by kernel_rfl) (fun _ _ _ h => h) (Or.inl ⟨by kernel_rfl, fun w hSw => by go_simp⟩) (by assumption) ?_
            simp only [Act.put, lTA, lC0, lCS]
            refine wpAnyH_take (i := 5) (oi := ⟨some 40, _, _, _, _, _⟩) (v := .pointer (some ⟨ob, 0, none⟩)) rfl (by kernel_rfl) (by kernel_rfl) (by kernel_rfl) (fun _ _ _ h => h) (Or.inl ⟨by kernel_rfl, fun w hSw => by go_simp⟩) (by assumption) ?_
            simp only [Act.put, lTA, lC0, lCS]
            refine wpAnyH_take (i := 6) (oi := ⟨some 41, _, _, _, _, _⟩) (v := .agg #[.slice (some ⟨ig, ioff, none⟩) n cap, .slice OA no ocap, .slice MA nm_ mcap]) rfl (by kernel_rfl) (by kernel_rfl) (by kernel_rfl) (fun _ _ _ h => h) (Or.inl ⟨by kernel_rfl, fun w hSw => by go_simp⟩) (by assumption) ?_
            simp only [Act.put, lTA, lC0, lCS]
            refine wpAnyH_take (i := 7) (oi := ⟨some 42, _, _, _, _, _⟩) (v := .int .i64 num) rfl (by kernel_rfl) (by kernel_rfl) (by kernel_rfl) (fun _ _ _ h => h) (Or.inl ⟨by kernel_rfl, fun w hSw => by go_simp⟩) (by assumption) ?_
            simp only [Act.put, lTA, lC0, lCS]
            refine wpAnyH_ready (rs := [8]) (by kernel_rfl) (by simp) ?_
            refine AllReadyH.cons rfl (fun K hK => ?_) AllReadyH.nil
            go_simp
            refine (HCA.out _ (HF1.out.st.stm.keep (below_drew1 w1))).mono ?_
            rintro e w5 ⟨rfl, hB5⟩
            show K _ _
            refine hK.out _ _ (⟨(hB5.cell (World.block_lt_of_cell? _ _ hHeld.1)).trans hHeld.1, (hB5.cell (World.block_lt_of_cell? _ _ hHeld.2.1)).trans hHeld.2.1, (hB5.cell (World.block_lt_of_cell? _ _ hHeld.2.2.1)).trans hHeld.2.2.1, (hB5.cell (World.block_lt_of_cell? _ _ hHeld.2.2.2)).trans hHeld.2.2.2⟩) (fun hHeld => ?_)
            clear hK K
            refine wpAnyH_take (i := 9) (oi := ⟨some 44, _, _, _, _, _⟩) (v := .pointer (some ⟨ig, ioff + i * 4, none⟩)) rfl (by kernel_rfl) (by kernel_rfl) (by kernel_rfl) (fun _ _ _ h => h) (Or.inl ⟨by kernel_rfl, fun w hSw => by go_simp⟩) (by assumption) ?_
            simp only [Act.put, lTA, lC0, lCS]
            refine wpAnyH_take (i := 10) (oi := ⟨some 45, _, _, _, _, _⟩) (v := .pointer (some ⟨ig, ioff + i * 4 + 1, none⟩)) rfl (by kernel_rfl) (by kernel_rfl) (by kernel_rfl) (fun _ _ _ h => h) (Or.inl ⟨by kernel_rfl, fun w hSw => by go_simp⟩) (by assumption) ?_
            simp only [Act.put, lTA, lC0, lCS]
            refine wpAnyH_take (i := 11) (oi := ⟨some 46, _, _, _, _, _⟩) (v := .bool false) rfl (by kernel_rfl) (by kernel_rfl) (by kernel_rfl) (fun _ _ _ h => h) (Or.inl ⟨by kernel_rfl, fun w hSw => by go_simp⟩) (by assumption) ?_
            simp only [Act.put, lTA, lC0, lCS]
            refine wpAnyH_take (i := 12) (oi := ⟨some 47, _, _, _, _, _⟩) (v := .bool false) rfl (by kernel_rfl) (by kernel_rfl) (by kernel_rfl) (fun _ _ _ h => h) (Or.inl ⟨by kernel_rfl, fun w hSw => by go_simp⟩) (by assumption) ?_
            simp only [Act.put, lTA, lC0, lCS]
            refine wpAnyH_take (i := 13) (oi := ⟨some 48, _, _, _, _, _⟩) (v := undef) rfl (by kernel_rfl) (by kernel_rfl) (by kernel_rfl) (fun _ _ _ h => h) (Or.inr ⟨by kernel_rfl, rfl⟩) (by assumption) ?_
            simp only [Act.put, lTA, lC0, lCS]
            refine wpAnyH_take (i := 14) (oi := ⟨some 49, _, _, _, _, _⟩) (v := undef) rfl (by kernel_rfl) (by kernel_rfl) (by kernel_rfl) (fun _ _ _ h => h) (Or.inr ⟨by kernel_rfl, rfl⟩) (by assumption) ?_
            simp only [Act.put, lTA, lC0, lCS]
            refine wpAnyH_take (i := 15) (oi := ⟨some 50, _, _, _, _, _⟩) (v := undef) rfl (by kernel_rfl) (by kernel_rfl) (by kernel_rfl) (fun _ _ _ h => h) (Or.inr ⟨by kernel_rfl, rfl⟩) (by assumption) ?_
            simp only [Act.put, lTA, lC0, lCS]
            refine wpAnyH_take (i := 16) (oi := ⟨some 51, _, _, _, _, _⟩) (v := undef) rfl (by kernel_rfl) (by kernel_rfl) (by kernel_rfl) (fun _ _ _ h => h) (Or.inr ⟨by kernel_rfl, rfl⟩) (by assumption) ?_
            simp only [Act.put, lTA, lC0, lCS]
            refine wpAnyH_take (i := 17) (oi := ⟨some 52, _, _, _, _, _⟩) (v := undef) rfl (by kernel_rfl) (by kernel_rfl) (by kernel_rfl) (fun _ _ _ h => h) (Or.inr ⟨by kernel_rfl, rfl⟩) (by assumption) ?_
            simp only [Act.put, lTA, lC0, lCS]
            refine wpAnyH_take (i := 18) (oi := ⟨some 53, _, _, _, _, _⟩) (v := undef) rfl (by kernel_rfl) (by kernel_rfl) (by kernel_rfl) (fun _ _ _ h => h) (Or.inr ⟨by kernel_rfl, rfl⟩) (by assumption) ?_
            simp only [Act.put, lTA, lC0, lCS]
            refine wpAnyH_take (i := 19) (oi := ⟨some 54, _, _, _, _, _⟩) (v := .bool false) rfl (by kernel_rfl) (by kernel_rfl) (by kernel_rfl) (fun _ _ _ h => h) (Or.inl ⟨by kernel_rfl, fun w hSw => by go_simp⟩) (by assumption) ?_
            simp only [Act.put, lTA, lC0, lCS]
            refine wpAnyH_take (i := 20) (oi := ⟨some 34, _, _, _, _, _⟩) (v := .bool false) rfl (by kernel_rfl) (by kernel_rfl) (by kernel_rfl) (fun _ _ _ h => h) (Or.inl ⟨by kernel_rfl, fun w hSw => by go_simp⟩) (by assumption) ?_
            simp only [Act.put, lTA, lC0, lCS]
            refine wpAnyH_done (by kernel_rfl) ?_ _
            go_wp2_with (fail)
            go_meet
            case rel => exact ⟨false, rfl, fun _ => HFN.out, (below_drew1 w1).trans hB5⟩
        case rest =>
          obtain ⟨b, rfl, hbf, hbc⟩ := hcut
          have HBF := Lib.hid hbf
          have HF3 := Lib.hid (HF1.out.below hbc)
          have HB3 := Lib.hid (HB1.out.trans (hbc.bk hbw1))
          obtain ⟨w3, hw3⟩ : ∃ x : World, x = wc := ⟨_, rfl⟩
          have hbw3 : base ≤ w3.heap.size := by rw [hw3]; exact Nat.le_trans hbw1 hbc.size
          subst hw3
          clear p0 p1 p2 q1 hbc hbf HF1 HB1 hbw1 HCA
          rcases bool_tf b with rfl | rfl
          · go_wp2_with (go_at_call 94; refine (fail2 _ _).mono ?_; rintro e wz ⟨rfl, hBz⟩; have HZ := Lib.hid (HF3.out.below hBz); have r0 : wz.cell? ⟨rb, 0, none⟩ = some (.int .i64 0) := HZ.out.rB.cell 0; have l0 := HZ.out.rB.frozen 0; have r1 : wz.cell? ⟨rb, 1, none⟩ = some (.int .i64 0) := HZ.out.rB.cell 1; have l1 := HZ.out.rB.frozen 1; have r2 : wz.cell? ⟨rb, 2, none⟩ = some (.int .i64 0) := HZ.out.rB.cell 2; have l2 := HZ.out.rB.frozen 2; have r3 : wz.cell? ⟨rb, 3, none⟩ = some (.bool false) := HZ.out.rB.cell 3; have l3 := HZ.out.rB.frozen 3; have r4 : wz.cell? ⟨rb, 4, none⟩ = some (.string ⟨#[]⟩) := HZ.out.rB.cell 4; have l4 := HZ.out.rB.frozen 4; have r5 : wz.cell? ⟨rb, 5, none⟩ = some (.slice none 0 0) := HZ.out.rB.cell 5; have l5 := HZ.out.rB.frozen 5; have HBZ := Lib.hid hBz; clear hBz)
            refine bodyPost_ret (v := .agg #[.int .i64 9, .int .i64 0, .int .i64 0, .bool false, .string ⟨#[]⟩, .slice none 0 0]) ?_ rfl ⟨⟨9, _, _, _, _, _, _, _, rfl, fun h => absurd h (by decide)⟩, Bk.set6 (HB3.out.trans (HBZ.out.bk hbw3)) HZ.out.rb_le (by have := HRB.out; omega) _ _ _ _ _ _⟩
            simp [results, Try.results128, go_sem, r0, r1, r2, r3, r4, r5]
          · have HNO_ := Lib.hid (HBF.out (by first | rfl | trivial))
            have HCE := Lib.hid (Entry_calls HF3.out.st.stm (by rw [HNN.out]; omega) HI.out.small.en to_ nm)
            have HEZ := Lib.hid (show entF S to_ nm = entIn (S.ino ti).ents nm from entF_at HTA.out nm)
            obtain ⟨en, hen⟩ : ∃ x, entF S to_ nm = x := ⟨_, rfl⟩
            rw [hen] at HCE HEZ
            have p0 : w3.cell? ⟨ob, 0, none⟩ = some (.slice (some ⟨ig, ioff, none⟩) n cap) := HF3.out.st.c0
            have p1 : w3.cell? ⟨ob, 1, none⟩ = some (.slice OA no ocap) := HF3.out.st.c1
            have p2 : w3.cell? ⟨ob, 2, none⟩ = some (.slice MA nm_ mcap) := HF3.out.st.c2
            clear hen HBF
            by_cases he0 : en = 0
            · subst he0
              go_upto_region 11 with (go_at_call 119; refine HCE.out.mono ?_; rintro e w4 ⟨rfl, hB4⟩; have HB4 := Lib.hid hB4; clear hB4)
              have HF4 := Lib.hid (HF3.out.below HB4.out)
              have HB5 := Lib.hid (HB3.out.trans (HB4.out.bk hbw3))
              have hbw4 : base ≤ w4.heap.size := Nat.le_trans hbw3 HB4.out.size
              clear p0 p1 p2 HCE HF3 HB3 hbw3
              have HCF := Lib.hid (full_calls HF4.out.st.stm HI.out HTA.out (nm := nm) (but := but) (by have := HNSZ.out; omega))
              have HFA := Lib.hid (HBUT.out (S.ino ti).ents (fun e he => HI.out.nam _ HTA.out.mem.1 e he))
              obtain ⟨fn, hfn⟩ : ∃ x, fullN (S.ino ti).ents nm but = x := ⟨_, rfl⟩
              rw [hfn] at HCF HFA
              clear hfn
              have p0 : w4.cell? ⟨ob, 0, none⟩ = some (.slice (some ⟨ig, ioff, none⟩) n cap) := HF4.out.st.c0
              have p1 : w4.cell? ⟨ob, 1, none⟩ = some (.slice OA no ocap) := HF4.out.st.c1
              have p2 : w4.cell? ⟨ob, 2, none⟩ = some (.slice MA nm_ mcap) := HF4.out.st.c2
              by_cases hfl : 4 ≤ fn
              · have hfl1 : decide (4 ≤ fn) = true := decide_eq_true hfl
                rw [hfl1] at HCF
                go_wp2_with (first | (go_at_call 120; refine HCF.out.mono ?_; rintro e w5 ⟨rfl, hB5⟩; have HB6 := Lib.hid hB5; have HF5 := Lib.hid (HF4.out.below hB5); clear hB5) | (go_at_call 94; refine (fail2 _ _).mono ?_; rintro e wz ⟨rfl, hBz⟩; have HZ := Lib.hid (HF5.out.below hBz); have r0 : wz.cell? ⟨rb, 0, none⟩ = some (.int .i64 0) := HZ.out.rB.cell 0; have l0 := HZ.out.rB.frozen 0; have r1 : wz.cell? ⟨rb, 1, none⟩ = some (.int .i64 0) := HZ.out.rB.cell 1; have l1 := HZ.out.rB.frozen 1; have r2 : wz.cell? ⟨rb, 2, none⟩ = some (.int .i64 0) := HZ.out.rB.cell 2; have l2 := HZ.out.rB.frozen 2; have r3 : wz.cell? ⟨rb, 3, none⟩ = some (.bool false) := HZ.out.rB.cell 3; have l3 := HZ.out.rB.frozen 3; have r4 : wz.cell? ⟨rb, 4, none⟩ = some (.string ⟨#[]⟩) := HZ.out.rB.cell 4; have l4 := HZ.out.rB.frozen 4; have r5 : wz.cell? ⟨rb, 5, none⟩ = some (.slice none 0 0) := HZ.out.rB.cell 5; have l5 := HZ.out.rB.frozen 5; have HBZ := Lib.hid hBz; clear hBz))
                refine bodyPost_ret (v := .agg #[.int .i64 5, .int .i64 0, .int .i64 0, .bool false, .string ⟨#[]⟩, .slice none 0 0]) ?_ rfl ⟨⟨5, _, _, _, _, _, _, _, rfl, fun h => absurd h (by decide)⟩, Bk.set6 (HB5.out.trans ((HB6.out.trans (HBZ.out.mono HB6.out.size)).bk hbw4)) HZ.out.rb_le (by have := HRB.out; omega) _ _ _ _ _ _⟩
                simp [results, Try.results128, go_sem, r0, r1, r2, r3, r4, r5]
              · have hfl1 : decide (4 ≤ fn) = false := decide_eq_false hfl
                rw [hfl1] at HCF
                have HFL := Lib.hid (show ((if tb = true then dropE name (S.ino ti).ents else (S.ino ti).ents).filter fun e => nbucket e.1 == nbucket nm).length < 4 by rw [← HFA.out]; omega)
                go_upto_region 13 with (go_at_call 120; refine HCF.out.mono ?_; rintro e w5 ⟨rfl, hB5⟩; have HB6 := Lib.hid hB5; have HF5 := Lib.hid (HF4.out.below hB5); clear hB5)
                have hbw5 : base ≤ w5.heap.size := Nat.le_trans hbw4 HB6.out.size
                have HDP := Lib.hid (drop_calls HF5.out.st hbw5 HI.out.wk HDA.out name)
                go_upto_region 14 with (go_at_call 129; refine HDP.out.mono ?_; rintro e w6 ⟨rfl, hB7, hK7, ev6, hT6⟩; have HB7 := Lib.hid (Bk.mk hB7 hK7); have HF6 := Lib.hid (Fr.mk hT6 (hK7.block HF5.out.cB (by decide) (by decide) (by decide)) (hK7.block HF5.out.rB (by decide) (by decide) (by decide)) HF5.out.rb_le); clear hB7 hT6 hK7)
                have hbw6 : base ≤ w6.heap.size := Nat.le_trans hbw5 HB7.out.bel.size
                have HPT := Lib.hid (put_calls HF6.out.st hbw6 (Wk.setE HI.out HDA.out.mem.1 List.filter_sublist) HTA.out.setE (nm := nm) HNSZ.out num)
                have HX1 := Lib.hid (show ((setE S dir (dropE name (S.ino di).ents)).ino ti).ents = if ti = di then dropE name (S.ino di).ents else (S.ino ti).ents from setE_ino HI.out HDA.out HTA.out.1)
                have HINV := Lib.hid (show Inv (setE (setE S dir (dropE name (S.ino di).ents)) to_ (insE (nm, num) ((setE S dir (dropE name (S.ino di).ents)).ino ti).ents)) by
                  have hm1 := Inv.ino_mem (S := setE S dir (dropE name (S.ino di).ents)) (i := ti) (by rw [show (setE S dir (dropE name (S.ino di).ents)).inodes.length = S.inodes.length from mapIno_len ..]; exact HTA.out.1)
                  obtain ⟨x, hx, e1, e2, e3, e4⟩ := of_setE hm1
                  have hnum : ((setE S dir (dropE name (S.ino di).ents)).ino ti).num = to_ := (HTA.out.setE (d := dir) (L := dropE name (S.ino di).ents)).2.2.1
                  have hdr : ((setE S dir (dropE name (S.ino di).ents)).ino ti).dir = true := by rw [e2]; exact HDD2.out x hx (by rw [← e1]; exact hnum)
                  have hsub : ∀ e ∈ ((setE S dir (dropE name (S.ino di).ents)).ino ti).ents, e ∈ (S.ino ti).ents := by
                    intro e he
                    rw [HX1.out] at he
                    by_cases q : ti = di
                    · rw [if_pos q] at he; rw [q]; exact (mem_dropE.1 he).1
                    · rw [if_neg q] at he; exact he
                  refine HI.out.rename HDA.out.mem.1 HDA.out.mem.2 HDD.out (p := (name, num)) HPE.out hm1 hnum hdr HNM_.out (fun e he => entIn_zero (HI.out.ent_pos HTA.out.mem.1) HEZ.out.symm e (hsub e he)) ?_ HNO_.out
                  have h4 := HFL.out
                  rw [HX1.out]
                  by_cases q : ti = di
                  · rw [if_pos q]
                    have ht : tb = true := by rw [← HTB.out, ← HTA.out.2.2.1, ← HDA.out.2.2.1, q]; simp
                    rw [if_pos ht, q] at h4
                    exact h4
                  · rw [if_neg q]
                    have ht : ¬ tb = true := by
                      rw [← HTB.out]
                      intro e
                      have e : to_ = dir := by simpa using e
                      exact q (HI.out.num_inj HTA.out.1 HDA.out.1 (by rw [HTA.out.2.2.1, HDA.out.2.2.1]; exact e))
                    rw [if_neg ht] at h4
                    exact h4)
                go_wp2_with (first | (go_at_call 121; refine HPT.out.mono ?_; rintro e w7 ⟨rfl, hB8, hK8, ev7, hT7⟩; have HB8 := Lib.hid (Bk.mk hB8 hK8); have HF7 := Lib.hid (Fr.mk hT7 (hK8.block HF6.out.cB (by decide) (by decide) (by decide)) (hK8.block HF6.out.rB (by decide) (by decide) (by decide)) HF6.out.rb_le); clear hB8 hT7 hK8) | (go_at_call 94; refine (fail2 _ _).mono ?_; rintro e wz ⟨rfl, hBz⟩; have HZ := Lib.hid (HF7.out.below hBz); have r0 : wz.cell? ⟨rb, 0, none⟩ = some (.int .i64 0) := HZ.out.rB.cell 0; have l0 := HZ.out.rB.frozen 0; have r1 : wz.cell? ⟨rb, 1, none⟩ = some (.int .i64 0) := HZ.out.rB.cell 1; have l1 := HZ.out.rB.frozen 1; have r2 : wz.cell? ⟨rb, 2, none⟩ = some (.int .i64 0) := HZ.out.rB.cell 2; have l2 := HZ.out.rB.frozen 2; have r3 : wz.cell? ⟨rb, 3, none⟩ = some (.bool false) := HZ.out.rB.cell 3; have l3 := HZ.out.rB.frozen 3; have r4 : wz.cell? ⟨rb, 4, none⟩ = some (.string ⟨#[]⟩) := HZ.out.rB.cell 4; have l4 := HZ.out.rB.frozen 4; have r5 : wz.cell? ⟨rb, 5, none⟩ = some (.slice none 0 0) := HZ.out.rB.cell 5; have l5 := HZ.out.rB.frozen 5; have HBZ := Lib.hid hBz; clear hBz))
                have hbw7 : base ≤ w7.heap.size := Nat.le_trans hbw6 HB8.out.bel.size
                refine bodyPost_ret (v := .agg #[.int .i64 0, .int .i64 0, .int .i64 0, .bool false, .string ⟨#[]⟩, .slice none 0 0]) ?_ rfl ⟨⟨0, _, _, _, _, _, _, _, rfl, fun _ => ⟨_, _, _, _, _, HINV.out, HZ.out.st.set6 HZ.out.rB _ _ _ _ _ _⟩⟩, Bk.set6 (HB5.out.trans ((HB6.out.bk hbw4).trans (HB7.out.trans (HB8.out.trans (HBZ.out.bk hbw7))))) HZ.out.rb_le (by have := HRB.out; omega) _ _ _ _ _ _⟩
                simp [results, Try.results128, go_sem, r0, r1, r2, r3, r4, r5]
            · have he1 : (en != 0) = true := by simpa using he0
              clear he0
              go_wp2_with (first | (go_at_call 119; refine HCE.out.mono ?_; rintro e w4 ⟨rfl, hB4⟩; have HB4 := Lib.hid hB4; have HF4 := Lib.hid (HF3.out.below hB4); clear hB4) | (go_at_call 94; refine (fail2 _ _).mono ?_; rintro e wz ⟨rfl, hBz⟩; have HZ := Lib.hid (HF4.out.below hBz); have r0 : wz.cell? ⟨rb, 0, none⟩ = some (.int .i64 0) := HZ.out.rB.cell 0; have l0 := HZ.out.rB.frozen 0; have r1 : wz.cell? ⟨rb, 1, none⟩ = some (.int .i64 0) := HZ.out.rB.cell 1; have l1 := HZ.out.rB.frozen 1; have r2 : wz.cell? ⟨rb, 2, none⟩ = some (.int .i64 0) := HZ.out.rB.cell 2; have l2 := HZ.out.rB.frozen 2; have r3 : wz.cell? ⟨rb, 3, none⟩ = some (.bool false) := HZ.out.rB.cell 3; have l3 := HZ.out.rB.frozen 3; have r4 : wz.cell? ⟨rb, 4, none⟩ = some (.string ⟨#[]⟩) := HZ.out.rB.cell 4; have l4 := HZ.out.rB.frozen 4; have r5 : wz.cell? ⟨rb, 5, none⟩ = some (.slice none 0 0) := HZ.out.rB.cell 5; have l5 := HZ.out.rB.frozen 5; have HBZ := Lib.hid hBz; clear hBz))
              refine bodyPost_ret (v := .agg #[.int .i64 2, .int .i64 0, .int .i64 0, .bool false, .string ⟨#[]⟩, .slice none 0 0]) ?_ rfl ⟨⟨2, _, _, _, _, _, _, _, rfl, fun h => absurd h (by decide)⟩, Bk.set6 (HB3.out.trans ((HB4.out.trans (HBZ.out.mono HB4.out.size)).bk hbw3)) HZ.out.rb_le (by have := HRB.out; omega) _ _ _ _ _ _⟩
              simp [results, Try.results128, go_sem, r0, r1, r2, r3, r4, r5]
      · have hc2 : (code2 != 0) = true := by simpa using hc0
        have HC0 := Lib.hid hc0
        clear hc0
        go_wp2_with (go_at_call 94; refine (fail2 _ _).mono ?_; rintro e wz ⟨rfl, hBz⟩; have HZ := Lib.hid (HF1.out.below hBz); have r0 : wz.cell? ⟨rb, 0, none⟩ = some (.int .i64 0) := HZ.out.rB.cell 0; have l0 := HZ.out.rB.frozen 0; have r1 : wz.cell? ⟨rb, 1, none⟩ = some (.int .i64 0) := HZ.out.rB.cell 1; have l1 := HZ.out.rB.frozen 1; have r2 : wz.cell? ⟨rb, 2, none⟩ = some (.int .i64 0) := HZ.out.rB.cell 2; have l2 := HZ.out.rB.frozen 2; have r3 : wz.cell? ⟨rb, 3, none⟩ = some (.bool false) := HZ.out.rB.cell 3; have l3 := HZ.out.rB.frozen 3; have r4 : wz.cell? ⟨rb, 4, none⟩ = some (.string ⟨#[]⟩) := HZ.out.rB.cell 4; have l4 := HZ.out.rB.frozen 4; have r5 : wz.cell? ⟨rb, 5, none⟩ = some (.slice none 0 0) := HZ.out.rB.cell 5; have l5 := HZ.out.rB.frozen 5; have HBZ := Lib.hid hBz; clear hBz)
        refine bodyPost_ret (v := .agg #[.int .i64 code2, .int .i64 0, .int .i64 0, .bool false, .string ⟨#[]⟩, .slice none 0 0]) ?_ rfl ⟨⟨code2, _, _, _, _, _, _, _, rfl, fun h => absurd h (HC0.out)⟩, Bk.set6 (HB1.out.trans (HBZ.out.bk hbw1)) HZ.out.rb_le (by have := HRB.out; omega) _ _ _ _ _ _⟩
        simp [results, Try.results128, go_sem, r0, r1, r2, r3, r4, r5]
end Go.Proofs.Ytenlffhoinialaa
