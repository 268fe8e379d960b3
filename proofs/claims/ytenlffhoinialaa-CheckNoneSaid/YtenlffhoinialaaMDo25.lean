/- The document's make1: up to the number. (Printed in part by genact13.py.) -/
import Derived.Test.YtenlffhoinialaaMDoD
import Derived.Test.YtenlffhoinialaaMDo19
namespace Go.Proofs.Ytenlffhoinialaa
open Go.RowKit
set_option maxHeartbeats 2000000
attribute [local go_sem ↓] Go.wp_at_zero Go.wp_at_succ
def ltP (a b : Ino × Value) : Bool := ltN a.1 b.1
theorem insBy_fst (p : Ino × Value) : ∀ L : List (Ino × Value), (insBy ltP p L).map (·.1) = insBy ltN p.1 (L.map (·.1))
  | [] => rfl
  | e :: L => by
    show (if ltP p e = true then p :: e :: L else e :: insBy ltP p L).map _ = (if ltN p.1 e.1 = true then _ else _)
    by_cases h : ltN p.1 e.1 = true
    · rw [if_pos h, if_pos (show ltP p e = true from h)]; rfl
    · rw [if_neg h, if_neg (show ¬ ltP p e = true from h), List.map_cons, insBy_fst p L]
/-- One more was made. -/
def madeS (S : St) (cn : Nat) : St := { S with made := S.made.set cn (S.mad cn + 1) }
theorem StT.put_mad {w : World} {base ob : Nat} {iv ov : Value} {ev : Nat → Value} {S : St} {MA : Option Addr} {nm_ mcap : Nat} (h : StT w base ob iv ov (.slice MA nm_ mcap) ev S) {cn : Nat} (hc : cn < S.made.length) :
    ∃ g off, MA = some ⟨g, off, none⟩ ∧ w.cell? ⟨g, off + cn, none⟩ = some (.int .i64 (S.mad cn)) ∧ w.frozen? ⟨g, off + cn, none⟩ = false ∧ base ≤ g ∧ Kp w (w.setCell ⟨g, off + cn, none⟩ (.int .i64 (S.mad cn + 1))) ∧ StT (w.setCell ⟨g, off + cn, none⟩ (.int .i64 (S.mad cn + 1))) base ob iv ov (.slice MA nm_ mcap) ev (madeS S cn) := by
  obtain ⟨g, off, cap', cs, e, hcc, hg, hbk, hcell, hset⟩ := h.row.mad.set (i := cn) (j := 0) hc (by omega)
  injection e with e1 e2 e3
  subst e1 e3
  have ea : off + (cn * 1 + 0) = off + cn := by omega
  rw [ea] at hcell
  have h3 := hset (.int .i64 (S.mad cn + 1))
  rw [ea] at h3
  refine ⟨g, off, rfl, hcell, hbk.frozen _, hg, (Kp.of_below (Below.refl _ w)).set hbk (.inr (.inr rfl)) _ _, h.sat.far (p := ⟨g, off + cn, none⟩) (Blk.ne_ h.sat hbk (by decide)) _, h.ob_le, h.row.ino.far hbk (by decide) _ _, fun i hi => (h.row.ent i hi).far hbk (by decide) _ _, h.row.opn.far hbk (by decide) _ _, ?_⟩
  have hl : (madeS S cn).made.length = S.made.length := List.length_set
  rw [hl]
  refine h3.congr fun a b ha hb => ?_
  obtain rfl : b = 0 := by omega
  show (if a = cn ∧ 0 = 0 then Value.int .i64 (S.mad cn + 1) else madC S a 0) = Value.int .i64 ((S.made.set cn (S.mad cn + 1)).getD a 0)
  rw [List.getD_eq_getElem?_getD, List.getElem?_set]
  by_cases q : a = cn
  · subst q
    rw [if_pos ⟨rfl, rfl⟩, if_pos rfl, if_pos hc]; rfl
  · rw [if_neg (fun e => q e.1), if_neg (fun e => q e.symm), ← List.getD_eq_getElem?_getD]; rfl
set_option maxRecDepth 1000000 in
theorem make1_calls {w : World} {base ob : Nat} {iv ov mv : Value} {ev : Nat → Value} {S : St} (hT : StT w base ob iv ov mv ev S) (hbw : base ≤ w.heap.size) (hI : Inv S) (c : CallD) (hco : 0 ≤ c.core ∧ c.core < S.made.length) :
    Calls Try.prog 95 #[.pointer (some ⟨ob, 0, none⟩), .agg #[.int .i64 c.kind, .int .i64 c.core, .int .i64 c.fd, .int .i64 c.off, .int .i64 c.num, .string c.path, .string c.path2, .string c.data]] w fun e w' => MutR base ob w' e ∧ Bk base w w' := by
  obtain ⟨i0_, hi, hz0, hz1, hz2⟩ := info_parts info_ino4
  obtain ⟨A, cap, rfl⟩ := hT.row.ino.at'.form
  obtain ⟨OA, ocap, rfl⟩ := hT.row.opn.at'.form
  obtain ⟨MA, mcap, rfl⟩ := hT.row.mad.at'.form
  have hni := hI.ni
  have HI := Lib.hid hI
  have HF0 := Lib.hid (Fr.lay hT hbw c)
  have HBL := Lib.hid (Fr.lay_below w (.cells #[.int .i64 c.kind, .int .i64 c.core, .int .i64 c.fd, .int .i64 c.off, .int .i64 c.num, .string c.path, .string c.path2, .string c.data] 51) (.cells #[.int .i64 0, .int .i64 0, .int .i64 0, .bool false, .string ⟨#[]⟩, .slice none 0 0] 47))
  obtain ⟨n, hnn⟩ : ∃ n, S.inodes.length = n := ⟨_, rfl⟩
  obtain ⟨no, hno⟩ : ∃ n, S.opens.length = n := ⟨_, rfl⟩
  obtain ⟨nm_, hnm⟩ : ∃ n, S.made.length = n := ⟨_, rfl⟩
  have HNN := Lib.hid hnn
  have HNO := Lib.hid hno
  have HNM := Lib.hid hnm
  rw [hnn, hno, hnm] at HF0
  rw [hnn] at hni
  clear hT hI hnn hno hnm
  go_enter Try.func95, Try.ntmps95
  go_upto_region 1 with (fail)
  obtain ⟨cb, hcb⟩ : ∃ x, x = w.heap.size := ⟨_, rfl⟩
  have HCB := Lib.hid hcb
  obtain ⟨rb, hrb⟩ : ∃ x, x = w.heap.size + 1 := ⟨_, rfl⟩
  have HRB := Lib.hid hrb
  rw [← hrb, ← hcb] at HF0
  rw [← hrb, ← hcb]
  clear hcb hrb
  generalize (w.alloc (.cells #[.int .i64 c.kind, .int .i64 c.core, .int .i64 c.fd, .int .i64 c.off, .int .i64 c.num, .string c.path, .string c.path2, .string c.data] 51)).alloc (.cells #[.int .i64 0, .int .i64 0, .int .i64 0, .bool false, .string ⟨#[]⟩, .slice none 0 0] 47) = w0 at *
  have HB0 := Lib.hid (HBL.out.bk hbw)
  have hbw0 : base ≤ w0.heap.size := by have := HBL.out.size; omega
  have HCO := Lib.hid hco
  have hc0 := hco.1
  have hc1 : c.core < (nm_ : Int) := by have := hco.2; rw [HNM.out] at this; exact this
  clear HBL hco
  have p0 : w0.cell? ⟨ob, 0, none⟩ = some (.slice A n cap) := HF0.out.st.c0
  have p1 : w0.cell? ⟨ob, 1, none⟩ = some (.slice OA no ocap) := HF0.out.st.c1
  have p2 : w0.cell? ⟨ob, 2, none⟩ = some (.slice MA nm_ mcap) := HF0.out.st.c2
  have k5 : w0.cell? ⟨cb, 5, none⟩ = some (.string c.path) := HF0.out.cB.cell 5
  go_cut [5, 6, 7] (fun s1 s2 s3 wx => ∃ dnum nm code2, s1 = .int .i64 dnum ∧ s2 = .string nm ∧ s3 = .int .i64 code2 ∧ ParentR S dnum nm code2 ∧ Below w0.heap.size w0 wx)
  case first =>
    refine wp_region_held_drew (S := fun w' => (w'.cell? ⟨ob, 0, none⟩ = some (.slice A n cap) ∧ w'.cell? ⟨ob, 1, none⟩ = some (.slice OA no ocap) ∧ w'.cell? ⟨ob, 2, none⟩ = some (.slice MA nm_ mcap) ∧ w'.cell? ⟨cb, 5, none⟩ = some (.string c.path))) (by kernel_rfl) (⟨p0, p1, p2, k5⟩) (fun hHeld => ?_)
    refine wpAnyH_take (i := 0) (oi := ⟨some 14, _, _, _, _, _⟩) (v := .pointer (some ⟨ob, 0, none⟩)) rfl (by kernel_rfl) (by kernel_rfl) (by kernel_rfl) (fun _ _ _ h => h) (Or.inl ⟨by kernel_rfl, fun w hSw => by go_simp⟩) (by assumption) ?_
    simp only [Act.put, lTA, lC0, lCS]
    refine wpAnyH_take (i := 1) (oi := ⟨some 15, _, _, _, _, _⟩) (v := .pointer (some ⟨ob, 0, none⟩)) rfl (by kernel_rfl) (by kernel_rfl) (by kernel_rfl) (fun _ _ _ h => h) (Or.inl ⟨by kernel_rfl, fun w hSw => by go_simp⟩) (by assumption) ?_
    simp only [Act.put, lTA, lC0, lCS]
    refine wpAnyH_take (i := 2) (oi := ⟨some 16, _, _, _, _, _⟩) (v := .agg #[.slice A n cap, .slice OA no ocap, .slice MA nm_ mcap]) rfl (by kernel_rfl) (by kernel_rfl) (by kernel_rfl) (fun _ _ _ h => h) (Or.inl ⟨by kernel_rfl, fun w hSw => by go_simp⟩) (by assumption) ?_
    simp only [Act.put, lTA, lC0, lCS]
    refine wpAnyH_take (i := 3) (oi := ⟨some 17, _, _, _, _, _⟩) (v := .pointer (some ⟨cb, 5, none⟩)) rfl (by kernel_rfl) (by kernel_rfl) (by kernel_rfl) (fun _ _ _ h => h) (Or.inl ⟨by kernel_rfl, fun w hSw => by go_simp⟩) (by assumption) ?_
    simp only [Act.put, lTA, lC0, lCS]
    refine wpAnyH_take (i := 4) (oi := ⟨some 18, _, _, _, _, _⟩) (v := .string c.path) rfl (by kernel_rfl) (by kernel_rfl) (by kernel_rfl) (fun _ _ _ h => h) (Or.inl ⟨by kernel_rfl, fun w hSw => by go_simp⟩) (by assumption) ?_
    simp only [Act.put, lTA, lC0, lCS]
    refine wpAnyH_ready (rs := [5]) (by kernel_rfl) (by simp) ?_
    refine AllReadyH.cons rfl (fun K hK => ?_) AllReadyH.nil
    go_simp
    refine (Parent_calls (HF0.out.st.stm.keep (below_drew1 w0)) HI.out c.path).mono ?_
    rintro e wP ⟨dnum, nm, code2, rfl, hpr, hBP⟩
    show K _ _
    refine hK.out _ _ (⟨(hBP.cell (World.block_lt_of_cell? _ _ hHeld.1)).trans hHeld.1, (hBP.cell (World.block_lt_of_cell? _ _ hHeld.2.1)).trans hHeld.2.1, (hBP.cell (World.block_lt_of_cell? _ _ hHeld.2.2.1)).trans hHeld.2.2.1, (hBP.cell (World.block_lt_of_cell? _ _ hHeld.2.2.2)).trans hHeld.2.2.2⟩) (fun hHeld => ?_)
    clear hK K
    refine wpAnyH_take (i := 6) (oi := ⟨some 13, _, _, _, _, _⟩) (v := .tuple #[.int .i64 dnum, .string nm, .int .i64 code2]) rfl (by kernel_rfl) (by kernel_rfl) (by kernel_rfl) (fun _ _ _ h => h) (Or.inl ⟨by kernel_rfl, fun w hSw => by go_simp⟩) (by assumption) ?_
    simp only [Act.put, lTA, lC0, lCS]
    refine wpAnyH_take (i := 7) (oi := ⟨some 20, _, _, _, _, _⟩) (v := .int .i64 dnum) rfl (by kernel_rfl) (by kernel_rfl) (by kernel_rfl) (fun _ _ _ h => h) (Or.inl ⟨by kernel_rfl, fun w hSw => by go_simp⟩) (by assumption) ?_
    simp only [Act.put, lTA, lC0, lCS]
    refine wpAnyH_take (i := 8) (oi := ⟨some 21, _, _, _, _, _⟩) (v := .string nm) rfl (by kernel_rfl) (by kernel_rfl) (by kernel_rfl) (fun _ _ _ h => h) (Or.inl ⟨by kernel_rfl, fun w hSw => by go_simp⟩) (by assumption) ?_
    simp only [Act.put, lTA, lC0, lCS]
    refine wpAnyH_take (i := 9) (oi := ⟨some 22, _, _, _, _, _⟩) (v := .int .i64 code2) rfl (by kernel_rfl) (by kernel_rfl) (by kernel_rfl) (fun _ _ _ h => h) (Or.inl ⟨by kernel_rfl, fun w hSw => by go_simp⟩) (by assumption) ?_
    simp only [Act.put, lTA, lC0, lCS]
    refine wpAnyH_take (i := 10) (oi := ⟨some 5, _, _, _, _, _⟩) (v := .int .i64 dnum) rfl (by kernel_rfl) (by kernel_rfl) (by kernel_rfl) (fun _ _ _ h => h) (Or.inl ⟨by kernel_rfl, fun w hSw => by go_simp⟩) (by assumption) ?_
    simp only [Act.put, lTA, lC0, lCS]
    refine wpAnyH_take (i := 11) (oi := ⟨some 6, _, _, _, _, _⟩) (v := .string nm) rfl (by kernel_rfl) (by kernel_rfl) (by kernel_rfl) (fun _ _ _ h => h) (Or.inl ⟨by kernel_rfl, fun w hSw => by go_simp⟩) (by assumption) ?_
    simp only [Act.put, lTA, lC0, lCS]
    refine wpAnyH_take (i := 12) (oi := ⟨some 7, _, _, _, _, _⟩) (v := .int .i64 code2) rfl (by kernel_rfl) (by kernel_rfl) (by kernel_rfl) (fun _ _ _ h => h) (Or.inl ⟨by kernel_rfl, fun w hSw => by go_simp⟩) (by assumption) ?_
    simp only [Act.put, lTA, lC0, lCS]
    refine wpAnyH_done (by kernel_rfl) ?_ _
    go_wp2_with (fail)
    go_meet
    case rel => exact ⟨_, _, _, rfl, rfl, rfl, hpr, (below_drew1 w0).trans hBP⟩
  case rest =>
    obtain ⟨dnum, nm, code2, rfl, rfl, rfl, hpr, hbc⟩ := hcut
    have HPR := Lib.hid hpr
    have HF1 := Lib.hid (HF0.out.below hbc)
    have HB1 := Lib.hid (HB0.out.trans (hbc.bk hbw0))
    obtain ⟨w1, hw1⟩ : ∃ x : World, x = wc := ⟨_, rfl⟩
    have hbw1 : base ≤ w1.heap.size := by rw [hw1]; exact Nat.le_trans hbw0 hbc.size
    subst hw1
    clear p0 p1 p2 k5 hpr hbc HF0 HB0 hbw0
    by_cases hd0 : code2 = 0
    · subst hd0
      obtain ⟨⟨di, hda, hddir⟩, hnm⟩ := (HPR.out.resolve_left (fun h => h rfl)).2
      have HDA := Lib.hid hda
      have HDD := Lib.hid (show (S.ino di).dir = true from hddir)
      have HNM_ := Lib.hid hnm
      have HNSZ := Lib.hid (ncheck_size hnm)
      have HCE := Lib.hid (Entry_calls HF1.out.st.stm (by rw [HNN.out]; omega) HI.out.small.en dnum nm)
      have HEZ := Lib.hid (show entF S dnum nm = entIn (S.ino di).ents nm from entF_at hda nm)
      obtain ⟨en, hen⟩ : ∃ x, entF S dnum nm = x := ⟨_, rfl⟩
      rw [hen] at HCE HEZ
      have p0 : w1.cell? ⟨ob, 0, none⟩ = some (.slice A n cap) := HF1.out.st.c0
      have p1 : w1.cell? ⟨ob, 1, none⟩ = some (.slice OA no ocap) := HF1.out.st.c1
      have p2 : w1.cell? ⟨ob, 2, none⟩ = some (.slice MA nm_ mcap) := HF1.out.st.c2
      clear hda hddir hnm hen
      by_cases he0 : en = 0
      · subst he0
        go_upto_region 6 with (go_at_call 119; refine HCE.out.mono ?_; rintro e w2 ⟨rfl, hB2⟩; have HBx := Lib.hid hB2; clear hB2)
        have HF2 := Lib.hid (HF1.out.below HBx.out)
        have HB2 := Lib.hid (HB1.out.trans (HBx.out.bk hbw1))
        have hbw2 : base ≤ w2.heap.size := Nat.le_trans hbw1 HBx.out.size
        clear p0 p1 p2 HCE HF1 HB1 hbw1 HBx
        have HCF := Lib.hid (full_calls (HF2.out.st.stm.keep (below_drew1 w2)) HI.out HDA.out (nm := nm) (but := ⟨#[]⟩) (by have := HNSZ.out; omega))
        have HFA := Lib.hid (fullN_all (L := (S.ino di).ents) (fun e he => HI.out.nam _ HDA.out.mem.1 e he) nm)
        obtain ⟨fn, hfn⟩ : ∃ x, fullN (S.ino di).ents nm ⟨#[]⟩ = x := ⟨_, rfl⟩
        rw [hfn] at HCF HFA
        clear hfn
        have p0 : w2.cell? ⟨ob, 0, none⟩ = some (.slice A n cap) := HF2.out.st.c0
        have p1 : w2.cell? ⟨ob, 1, none⟩ = some (.slice OA no ocap) := HF2.out.st.c1
        have p2 : w2.cell? ⟨ob, 2, none⟩ = some (.slice MA nm_ mcap) := HF2.out.st.c2
        have k1 : w2.cell? ⟨cb, 1, none⟩ = some (.int .i64 c.core) := HF2.out.cB.cell 1
        by_cases hfl : 4 ≤ fn
        · have hfl1 : decide (4 ≤ fn) = true := decide_eq_true hfl
          rw [hfl1] at HCF
          go_cut [37] (fun s wx => s = .bool true ∧ Below w2.heap.size w2 wx)
          case first =>
            refine wp_region_held_drew (S := fun w' => (w'.cell? ⟨ob, 0, none⟩ = some (.slice A n cap) ∧ w'.cell? ⟨ob, 1, none⟩ = some (.slice OA no ocap) ∧ w'.cell? ⟨ob, 2, none⟩ = some (.slice MA nm_ mcap) ∧ w'.cell? ⟨cb, 1, none⟩ = some (.int .i64 c.core))) (by kernel_rfl) (⟨p0, p1, p2, k1⟩) (fun hHeld => ?_)
            refine wpAnyH_take (i := 0) (oi := ⟨some 38, _, _, _, _, _⟩) (v := .pointer (some ⟨ob, 0, none⟩)) rfl (by kernel_rfl) (by kernel_rfl) (by kernel_rfl) (fun _ _ _ h => h) (Or.inl ⟨by kernel_rfl, fun w hSw => by go_simp⟩) (by assumption) ?_
            simp only [Act.put, lTA, lC0, lCS]
            refine wpAnyH_take (i := 1) (oi := ⟨some 39, _, _, _, _, _⟩) (v := .pointer (some ⟨ob, 0, none⟩)) rfl (by kernel_rfl) (by kernel_rfl) (by kernel_rfl) (fun _ _ _ h => h) (Or.inl ⟨by kernel_rfl, fun w hSw => by go_simp⟩) (by assumption) ?_
            simp only [Act.put, lTA, lC0, lCS]
            refine wpAnyH_take (i := 2) (oi := ⟨some 40, _, _, _, _, _⟩) (v := .agg #[.slice A n cap, .slice OA no ocap, .slice MA nm_ mcap]) rfl (by kernel_rfl) (by kernel_rfl) (by kernel_rfl) (fun _ _ _ h => h) (Or.inl ⟨by kernel_rfl, fun w hSw => by go_simp⟩) (by assumption) ?_
            simp only [Act.put, lTA, lC0, lCS]
            refine wpAnyH_take (i := 3) (oi := ⟨some 41, _, _, _, _, _⟩) (v := .int .i64 dnum) rfl (by kernel_rfl) (by kernel_rfl) (by kernel_rfl) (fun _ _ _ h => h) (Or.inl ⟨by kernel_rfl, fun w hSw => by go_simp⟩) (by assumption) ?_
            simp only [Act.put, lTA, lC0, lCS]
            refine wpAnyH_take (i := 4) (oi := ⟨some 42, _, _, _, _, _⟩) (v := .string nm) rfl (by kernel_rfl) (by kernel_rfl) (by kernel_rfl) (fun _ _ _ h => h) (Or.inl ⟨by kernel_rfl, fun w hSw => by go_simp⟩) (by assumption) ?_
            simp only [Act.put, lTA, lC0, lCS]
            refine wpAnyH_ready (rs := [5]) (by kernel_rfl) (by simp) ?_
            refine AllReadyH.cons rfl (fun K hK => ?_) AllReadyH.nil
            go_simp
            refine HCF.out.mono ?_
            rintro e wQ ⟨rfl, hBQ⟩
            show K _ _
            refine hK.out _ _ (⟨(hBQ.cell (World.block_lt_of_cell? _ _ hHeld.1)).trans hHeld.1, (hBQ.cell (World.block_lt_of_cell? _ _ hHeld.2.1)).trans hHeld.2.1, (hBQ.cell (World.block_lt_of_cell? _ _ hHeld.2.2.1)).trans hHeld.2.2.1, (hBQ.cell (World.block_lt_of_cell? _ _ hHeld.2.2.2)).trans hHeld.2.2.2⟩) (fun hHeld => ?_)
            clear hK K
            refine wpAnyH_take (i := 6) (oi := ⟨some 44, _, _, _, _, _⟩) (v := .bool true) rfl (by kernel_rfl) (by kernel_rfl) (by kernel_rfl) (fun _ _ _ h => h) (Or.inl ⟨by kernel_rfl, fun w hSw => by go_simp⟩) (by assumption) ?_
            simp only [Act.put, lTA, lC0, lCS]
            refine wpAnyH_take (i := 7) (oi := ⟨some 45, _, _, _, _, _⟩) (v := undef) rfl (by kernel_rfl) (by kernel_rfl) (by kernel_rfl) (fun _ _ _ h => h) (Or.inr ⟨by kernel_rfl, rfl⟩) (by assumption) ?_
            simp only [Act.put, lTA, lC0, lCS]
            refine wpAnyH_take (i := 8) (oi := ⟨some 46, _, _, _, _, _⟩) (v := undef) rfl (by kernel_rfl) (by kernel_rfl) (by kernel_rfl) (fun _ _ _ h => h) (Or.inr ⟨by kernel_rfl, rfl⟩) (by assumption) ?_
            simp only [Act.put, lTA, lC0, lCS]
            refine wpAnyH_take (i := 9) (oi := ⟨some 47, _, _, _, _, _⟩) (v := undef) rfl (by kernel_rfl) (by kernel_rfl) (by kernel_rfl) (fun _ _ _ h => h) (Or.inr ⟨by kernel_rfl, rfl⟩) (by assumption) ?_
            simp only [Act.put, lTA, lC0, lCS]
            refine wpAnyH_take (i := 10) (oi := ⟨some 48, _, _, _, _, _⟩) (v := undef) rfl (by kernel_rfl) (by kernel_rfl) (by kernel_rfl) (fun _ _ _ h => h) (Or.inr ⟨by kernel_rfl, rfl⟩) (by assumption) ?_
            simp only [Act.put, lTA, lC0, lCS]
            refine wpAnyH_take (i := 11) (oi := ⟨some 49, _, _, _, _, _⟩) (v := undef) rfl (by kernel_rfl) (by kernel_rfl) (by kernel_rfl) (fun _ _ _ h => h) (Or.inr ⟨by kernel_rfl, rfl⟩) (by assumption) ?_
            simp only [Act.put, lTA, lC0, lCS]
            refine wpAnyH_take (i := 12) (oi := ⟨some 50, _, _, _, _, _⟩) (v := undef) rfl (by kernel_rfl) (by kernel_rfl) (by kernel_rfl) (fun _ _ _ h => h) (Or.inr ⟨by kernel_rfl, rfl⟩) (by assumption) ?_
            simp only [Act.put, lTA, lC0, lCS]
            refine wpAnyH_take (i := 13) (oi := ⟨some 51, _, _, _, _, _⟩) (v := undef) rfl (by kernel_rfl) (by kernel_rfl) (by kernel_rfl) (fun _ _ _ h => h) (Or.inr ⟨by kernel_rfl, rfl⟩) (by assumption) ?_
            simp only [Act.put, lTA, lC0, lCS]
            refine wpAnyH_take (i := 14) (oi := ⟨some 52, _, _, _, _, _⟩) (v := undef) rfl (by kernel_rfl) (by kernel_rfl) (by kernel_rfl) (fun _ _ _ h => h) (Or.inr ⟨by kernel_rfl, rfl⟩) (by assumption) ?_
            simp only [Act.put, lTA, lC0, lCS]
            refine wpAnyH_take (i := 15) (oi := ⟨some 53, _, _, _, _, _⟩) (v := undef) rfl (by kernel_rfl) (by kernel_rfl) (by kernel_rfl) (fun _ _ _ h => h) (Or.inr ⟨by kernel_rfl, rfl⟩) (by assumption) ?_
            simp only [Act.put, lTA, lC0, lCS]
            refine wpAnyH_take (i := 16) (oi := ⟨some 54, _, _, _, _, _⟩) (v := .bool true) rfl (by kernel_rfl) (by kernel_rfl) (by kernel_rfl) (fun _ _ _ h => h) (Or.inl ⟨by kernel_rfl, fun w hSw => by go_simp⟩) (by assumption) ?_
            simp only [Act.put, lTA, lC0, lCS]
            refine wpAnyH_take (i := 17) (oi := ⟨some 37, _, _, _, _, _⟩) (v := .bool true) rfl (by kernel_rfl) (by kernel_rfl) (by kernel_rfl) (fun _ _ _ h => h) (Or.inl ⟨by kernel_rfl, fun w hSw => by go_simp⟩) (by assumption) ?_
            simp only [Act.put, lTA, lC0, lCS]
            refine wpAnyH_done (by kernel_rfl) ?_ _
            go_wp2_with (fail)
            go_meet
            case rel => exact ⟨rfl, (below_drew1 w2).trans hBQ⟩
          case rest =>
            obtain ⟨rfl, hbc⟩ := hcut
            have HF3 := Lib.hid (HF2.out.below hbc)
            have HB3 := Lib.hid (HB2.out.trans (hbc.bk hbw2))
            have hbw3 : base ≤ wc.heap.size := Nat.le_trans hbw2 hbc.size
            clear hbc p0 p1 p2 k1
            go_wp2_with (go_at_call 94; refine (fail2 _ _).mono ?_; rintro e wz ⟨rfl, hBz⟩; have HZ := Lib.hid (HF3.out.below hBz); have r0 : wz.cell? ⟨rb, 0, none⟩ = some (.int .i64 0) := HZ.out.rB.cell 0; have l0 := HZ.out.rB.frozen 0; have r1 : wz.cell? ⟨rb, 1, none⟩ = some (.int .i64 0) := HZ.out.rB.cell 1; have l1 := HZ.out.rB.frozen 1; have r2 : wz.cell? ⟨rb, 2, none⟩ = some (.int .i64 0) := HZ.out.rB.cell 2; have l2 := HZ.out.rB.frozen 2; have r3 : wz.cell? ⟨rb, 3, none⟩ = some (.bool false) := HZ.out.rB.cell 3; have l3 := HZ.out.rB.frozen 3; have r4 : wz.cell? ⟨rb, 4, none⟩ = some (.string ⟨#[]⟩) := HZ.out.rB.cell 4; have l4 := HZ.out.rB.frozen 4; have r5 : wz.cell? ⟨rb, 5, none⟩ = some (.slice none 0 0) := HZ.out.rB.cell 5; have l5 := HZ.out.rB.frozen 5; have HBZ := Lib.hid hBz; clear hBz)
            refine bodyPost_ret (v := .agg #[.int .i64 5, .int .i64 0, .int .i64 0, .bool false, .string ⟨#[]⟩, .slice none 0 0]) ?_ rfl ⟨⟨5, _, _, _, _, _, _, _, rfl, fun h => absurd h (by decide)⟩, Bk.set6 (HB3.out.trans (HBZ.out.bk hbw3)) HZ.out.rb_le (by have := HRB.out; omega) _ _ _ _ _ _⟩
            simp [results, Try.results95, go_sem, r0, r1, r2, r3, r4, r5]
        · have hfl1 : decide (4 ≤ fn) = false := decide_eq_false hfl
          rw [hfl1] at HCF
          have HFL := Lib.hid (show ((S.ino di).ents.filter fun e => nbucket e.1 == nbucket nm).length < 4 by rw [← HFA.out]; omega)
          obtain ⟨-, hmcap, mg, moff, rfl, hmcell⟩ := (show RowAt w2 (.slice MA nm_ mcap) nm_ 1 (madC S) by have := HF2.out.st.stm.mad; rwa [HNM.out] at this).at_ (i := c.core.toNat) (by omega)
          have m0 : w2.cell? ⟨mg, moff + c.core.toNat, none⟩ = some (.int .i64 (S.mad c.core.toNat)) := by have := hmcell 0 (by omega); rwa [Nat.mul_one] at this
          have HMR := Lib.hid (show 0 ≤ S.mad c.core.toNat ∧ S.mad c.core.toNat ≤ 32 from HI.out.mb _ (getD_mem (by have := HNM.out; omega)))
          obtain ⟨md, hmd⟩ : ∃ x, S.mad c.core.toNat = x := ⟨_, rfl⟩
          have HMD := Lib.hid hmd
          rw [hmd] at m0 HMR
          clear hmd hmcell
          go_cut [37] (fun s wx => s = .bool (decide (32 ≤ md)) ∧ Below w2.heap.size w2 wx)
          case first =>
            refine wp_region_held_drew (S := fun w' => (w'.cell? ⟨ob, 0, none⟩ = some (.slice A n cap) ∧ w'.cell? ⟨ob, 1, none⟩ = some (.slice OA no ocap) ∧ w'.cell? ⟨ob, 2, none⟩ = some (.slice (some ⟨mg, moff, none⟩) nm_ mcap) ∧ w'.cell? ⟨cb, 1, none⟩ = some (.int .i64 c.core) ∧ w'.cell? ⟨mg, moff + c.core.toNat, none⟩ = some (.int .i64 md))) (by kernel_rfl) (⟨p0, p1, p2, k1, m0⟩) (fun hHeld => ?_)
            refine wpAnyH_take (i := 0) (oi := ⟨some 38, _, _, _, _, _⟩) (v := .pointer (some ⟨ob, 0, none⟩)) rfl (by kernel_rfl) (by kernel_rfl) (by kernel_rfl) (fun _ _ _ h => h) (Or.inl ⟨by kernel_rfl, fun w hSw => by go_simp⟩) (by assumption) ?_
            simp only [Act.put, lTA, lC0, lCS]
            refine wpAnyH_take (i := 1) (oi := ⟨some 39, _, _, _, _, _⟩) (v := .pointer (some ⟨ob, 0, none⟩)) rfl (by kernel_rfl) (by kernel_rfl) (by kernel_rfl) (fun _ _ _ h => h) (Or.inl ⟨by kernel_rfl, fun w hSw => by go_simp⟩) (by assumption) ?_
            simp only [Act.put, lTA, lC0, lCS]
            refine wpAnyH_take (i := 2) (oi := ⟨some 40, _, _, _, _, _⟩) (v := .agg #[.slice A n cap, .slice OA no ocap, .slice (some ⟨mg, moff, none⟩) nm_ mcap]) rfl (by kernel_rfl) (by kernel_rfl) (by kernel_rfl) (fun _ _ _ h => h) (Or.inl ⟨by kernel_rfl, fun w hSw => by go_simp⟩) (by assumption) ?_
            simp only [Act.put, lTA, lC0, lCS]
            refine wpAnyH_take (i := 3) (oi := ⟨some 41, _, _, _, _, _⟩) (v := .int .i64 dnum) rfl (by kernel_rfl) (by kernel_rfl) (by kernel_rfl) (fun _ _ _ h => h) (Or.inl ⟨by kernel_rfl, fun w hSw => by go_simp⟩) (by assumption) ?_
            simp only [Act.put, lTA, lC0, lCS]
            refine wpAnyH_take (i := 4) (oi := ⟨some 42, _, _, _, _, _⟩) (v := .string nm) rfl (by kernel_rfl) (by kernel_rfl) (by kernel_rfl) (fun _ _ _ h => h) (Or.inl ⟨by kernel_rfl, fun w hSw => by go_simp⟩) (by assumption) ?_
            simp only [Act.put, lTA, lC0, lCS]
            refine wpAnyH_ready (rs := [5]) (by kernel_rfl) (by simp) ?_
            refine AllReadyH.cons rfl (fun K hK => ?_) AllReadyH.nil
            go_simp
            refine HCF.out.mono ?_
            rintro e wQ ⟨rfl, hBQ⟩
            show K _ _
            refine hK.out _ _ (⟨(hBQ.cell (World.block_lt_of_cell? _ _ hHeld.1)).trans hHeld.1, (hBQ.cell (World.block_lt_of_cell? _ _ hHeld.2.1)).trans hHeld.2.1, (hBQ.cell (World.block_lt_of_cell? _ _ hHeld.2.2.1)).trans hHeld.2.2.1, (hBQ.cell (World.block_lt_of_cell? _ _ hHeld.2.2.2.1)).trans hHeld.2.2.2.1, (hBQ.cell (World.block_lt_of_cell? _ _ hHeld.2.2.2.2)).trans hHeld.2.2.2.2⟩) (fun hHeld => ?_)
            clear hK K
            refine wpAnyH_take (i := 6) (oi := ⟨some 44, _, _, _, _, _⟩) (v := .bool false) rfl (by kernel_rfl) (by kernel_rfl) (by kernel_rfl) (fun _ _ _ h => h) (Or.inl ⟨by kernel_rfl, fun w hSw => by go_simp⟩) (by assumption) ?_
            simp only [Act.put, lTA, lC0, lCS]
            refine wpAnyH_take (i := 7) (oi := ⟨some 45, _, _, _, _, _⟩) (v := .pointer (some ⟨ob, 0, none⟩)) rfl (by kernel_rfl) (by kernel_rfl) (by kernel_rfl) (fun _ _ _ h => h) (Or.inl ⟨by kernel_rfl, fun w hSw => by go_simp⟩) (by assumption) ?_
            simp only [Act.put, lTA, lC0, lCS]
            refine wpAnyH_take (i := 8) (oi := ⟨some 46, _, _, _, _, _⟩) (v := .pointer (some ⟨ob, 0, none⟩)) rfl (by kernel_rfl) (by kernel_rfl) (by kernel_rfl) (fun _ _ _ h => h) (Or.inl ⟨by kernel_rfl, fun w hSw => by go_simp⟩) (by assumption) ?_
            simp only [Act.put, lTA, lC0, lCS]
            refine wpAnyH_take (i := 9) (oi := ⟨some 47, _, _, _, _, _⟩) (v := .pointer (some ⟨ob, 2, none⟩)) rfl (by kernel_rfl) (by kernel_rfl) (by kernel_rfl) (fun _ _ _ h => h) (Or.inl ⟨by kernel_rfl, fun w hSw => by go_simp⟩) (by assumption) ?_
            simp only [Act.put, lTA, lC0, lCS]
            refine wpAnyH_take (i := 10) (oi := ⟨some 48, _, _, _, _, _⟩) (v := .slice (some ⟨mg, moff, none⟩) nm_ mcap) rfl (by kernel_rfl) (by kernel_rfl) (by kernel_rfl) (fun _ _ _ h => h) (Or.inl ⟨by kernel_rfl, fun w hSw => by go_simp⟩) (by assumption) ?_
            simp only [Act.put, lTA, lC0, lCS]
            refine wpAnyH_take (i := 11) (oi := ⟨some 49, _, _, _, _, _⟩) (v := .pointer (some ⟨cb, 1, none⟩)) rfl (by kernel_rfl) (by kernel_rfl) (by kernel_rfl) (fun _ _ _ h => h) (Or.inl ⟨by kernel_rfl, fun w hSw => by go_simp⟩) (by assumption) ?_
            simp only [Act.put, lTA, lC0, lCS]
            refine wpAnyH_take (i := 12) (oi := ⟨some 50, _, _, _, _, _⟩) (v := .int .i64 c.core) rfl (by kernel_rfl) (by kernel_rfl) (by kernel_rfl) (fun _ _ _ h => h) (Or.inl ⟨by kernel_rfl, fun w hSw => by go_simp⟩) (by assumption) ?_
            simp only [Act.put, lTA, lC0, lCS]
            refine wpAnyH_take (i := 13) (oi := ⟨some 51, _, _, _, _, _⟩) (v := .pointer (some ⟨mg, moff + c.core.toNat, none⟩)) rfl (by kernel_rfl) (by kernel_rfl) (by kernel_rfl) (fun _ _ _ h => h) (Or.inl ⟨by kernel_rfl, fun w hSw => by go_simp⟩) (by assumption) ?_
            simp only [Act.put, lTA, lC0, lCS]
            refine wpAnyH_take (i := 14) (oi := ⟨some 52, _, _, _, _, _⟩) (v := .int .i64 md) rfl (by kernel_rfl) (by kernel_rfl) (by kernel_rfl) (fun _ _ _ h => h) (Or.inl ⟨by kernel_rfl, fun w hSw => by go_simp⟩) (by assumption) ?_
            simp only [Act.put, lTA, lC0, lCS]
            refine wpAnyH_take (i := 15) (oi := ⟨some 53, _, _, _, _, _⟩) (v := .bool (decide (32 ≤ md))) rfl (by kernel_rfl) (by kernel_rfl) (by kernel_rfl) (fun _ _ _ h => h) (Or.inl ⟨by kernel_rfl, fun w hSw => by go_simp⟩) (by assumption) ?_
            simp only [Act.put, lTA, lC0, lCS]
            refine wpAnyH_take (i := 16) (oi := ⟨some 54, _, _, _, _, _⟩) (v := .bool (decide (32 ≤ md))) rfl (by kernel_rfl) (by kernel_rfl) (by kernel_rfl) (fun _ _ _ h => h) (Or.inl ⟨by kernel_rfl, fun w hSw => by go_simp⟩) (by assumption) ?_
            simp only [Act.put, lTA, lC0, lCS]
            refine wpAnyH_take (i := 17) (oi := ⟨some 37, _, _, _, _, _⟩) (v := .bool (decide (32 ≤ md))) rfl (by kernel_rfl) (by kernel_rfl) (by kernel_rfl) (fun _ _ _ h => h) (Or.inl ⟨by kernel_rfl, fun w hSw => by go_simp⟩) (by assumption) ?_
            simp only [Act.put, lTA, lC0, lCS]
            refine wpAnyH_done (by kernel_rfl) ?_ _
            go_wp2_with (fail)
            go_meet
            case rel => exact ⟨rfl, (below_drew1 w2).trans hBQ⟩
          case rest =>
            obtain ⟨rfl, hbc⟩ := hcut
            have HF3 := Lib.hid (HF2.out.below hbc)
            have HB3 := Lib.hid (HB2.out.trans (hbc.bk hbw2))
            obtain ⟨w3, hw3⟩ : ∃ x : World, x = wc := ⟨_, rfl⟩
            have hbw3 : base ≤ w3.heap.size := by rw [hw3]; exact Nat.le_trans hbw2 hbc.size
            subst hw3
            clear p0 p1 p2 k1 m0 hbc HF2 HB2 hbw2 HCF
            by_cases hmx : 32 ≤ md
            · have hmx1 : decide (32 ≤ md) = true := decide_eq_true hmx
              rw [hmx1]
              go_wp2_with (go_at_call 94; refine (fail2 _ _).mono ?_; rintro e wz ⟨rfl, hBz⟩; have HZ := Lib.hid (HF3.out.below hBz); have r0 : wz.cell? ⟨rb, 0, none⟩ = some (.int .i64 0) := HZ.out.rB.cell 0; have l0 := HZ.out.rB.frozen 0; have r1 : wz.cell? ⟨rb, 1, none⟩ = some (.int .i64 0) := HZ.out.rB.cell 1; have l1 := HZ.out.rB.frozen 1; have r2 : wz.cell? ⟨rb, 2, none⟩ = some (.int .i64 0) := HZ.out.rB.cell 2; have l2 := HZ.out.rB.frozen 2; have r3 : wz.cell? ⟨rb, 3, none⟩ = some (.bool false) := HZ.out.rB.cell 3; have l3 := HZ.out.rB.frozen 3; have r4 : wz.cell? ⟨rb, 4, none⟩ = some (.string ⟨#[]⟩) := HZ.out.rB.cell 4; have l4 := HZ.out.rB.frozen 4; have r5 : wz.cell? ⟨rb, 5, none⟩ = some (.slice none 0 0) := HZ.out.rB.cell 5; have l5 := HZ.out.rB.frozen 5; have HBZ := Lib.hid hBz; clear hBz)
              refine bodyPost_ret (v := .agg #[.int .i64 5, .int .i64 0, .int .i64 0, .bool false, .string ⟨#[]⟩, .slice none 0 0]) ?_ rfl ⟨⟨5, _, _, _, _, _, _, _, rfl, fun h => absurd h (by decide)⟩, Bk.set6 (HB3.out.trans (HBZ.out.bk hbw3)) HZ.out.rb_le (by have := HRB.out; omega) _ _ _ _ _ _⟩
              simp [results, Try.results95, go_sem, r0, r1, r2, r3, r4, r5]
            · have hmx1 : decide (32 ≤ md) = false := decide_eq_false hmx
              rw [hmx1]
              have hm0 := HMR.out.1
              obtain ⟨num, hnum⟩ : ∃ x : Int, x = 2 + c.core + 8 * md := ⟨_, rfl⟩
              have HNUM := Lib.hid hnum
              have hm8 : nm_ ≤ 8 := by rw [← HNM.out]; exact HI.out.m8
              obtain ⟨mg', moff', e', hmc', hmf', hmb', hmk', hmt'⟩ := HF3.out.st.put_mad (cn := c.core.toNat) (by have := HNM.out; omega)
              injection e' with e'
              injection e' with e1' e2'
              subst e1' e2'
              rw [HMD.out] at hmc' hmk' hmt'
              have HMT := Lib.hid hmt'
              have HMK := Lib.hid hmk'
              have HMB := Lib.hid hmb'
              have p2 : w3.cell? ⟨ob, 2, none⟩ = some (.slice (some ⟨mg, moff, none⟩) nm_ mcap) := HF3.out.st.c2
              have k1 : w3.cell? ⟨cb, 1, none⟩ = some (.int .i64 c.core) := HF3.out.cB.cell 1
              clear hmt' hmk' hmb'
              have hcw : IntKind.i64.wrap c.core = c.core := IntWalk.i64_in _ (by omega)
              clear hnum
              go_upto_region 8 with (fail)
              go_cut [8] (fun s wx => s = .int .i64 num ∧ ∃ d, wx = w3.drewN d)
              case first =>
                go_quiet (fail)
                go_wp2_with (fail)
                go_meet
                case rel => exact ⟨by rw [HNUM.out], _, rfl⟩
              case rest =>
                obtain ⟨rfl, dd, rfl⟩ := hcut
                have HF4 := Lib.hid (HF3.out.below (below_drewN w3 dd))
                have HB4 := Lib.hid (HB3.out.trans ((below_drewN w3 dd).bk hbw3))
                have hbw4 : base ≤ (w3.drewN dd).heap.size := hbw3
                clear p2 k1 hmc' hmf' HMT HMK HMB HF3 HB3 hbw3
                generalize w3.drewN dd = w4 at *
                obtain ⟨mg', moff', e', hmc', hmf', hmb', hmk', hmt'⟩ := HF4.out.st.put_mad (cn := c.core.toNat) (by have := HNM.out; omega)
                injection e' with e'
                injection e' with e1' e2'
                subst e1' e2'
                rw [HMD.out] at hmc' hmk' hmt'
                have HMT := Lib.hid hmt'
                have HMK := Lib.hid hmk'
                have HMB := Lib.hid hmb'
                have p2 : w4.cell? ⟨ob, 2, none⟩ = some (.slice (some ⟨mg, moff, none⟩) nm_ mcap) := HF4.out.st.c2
                have k1 : w4.cell? ⟨cb, 1, none⟩ = some (.int .i64 c.core) := HF4.out.cB.cell 1
                have p2d : w4.drew.cell? ⟨ob, 2, none⟩ = some (.slice (some ⟨mg, moff, none⟩) nm_ mcap) := p2
                have k1d : w4.drew.cell? ⟨cb, 1, none⟩ = some (.int .i64 c.core) := k1
                have m0d : w4.drew.cell? ⟨mg, moff + c.core.toNat, none⟩ = some (.int .i64 md) := hmc'
                have mfd : w4.drew.frozen? ⟨mg, moff + c.core.toNat, none⟩ = false := hmf'
                clear hmt' hmk' hmb'
                go_upto_region 9 with (fail)
                go_region
                have HF5 := Lib.hid ((Fr.mk HMT.out (HMK.out.block HF4.out.cB (by decide) (by decide) (by decide)) (HMK.out.block HF4.out.rB (by decide) (by decide) (by decide)) HF4.out.rb_le).below (below_drew1 _))
                have HB5 := Lib.hid (show Bk base w (w4.setCell ⟨mg, moff + c.core.toNat, none⟩ (.int .i64 (md + 1))).drew from (Bk.mk (HB4.out.bel.setCell (p := ⟨mg, moff + c.core.toNat, none⟩) HMB.out (.int .i64 (md + 1))) (HB4.out.kp.trans HMK.out)).trans ((below_drew1 _).bk (Nat.le_trans hbw4 HMK.out.size)))
                have hbw5 : base ≤ (w4.setCell ⟨mg, moff + c.core.toNat, none⟩ (.int .i64 (md + 1))).drew.heap.size := Nat.le_trans hbw4 HMK.out.size
                clear p2 k1 p2d k1d m0d mfd hmc' hmf' HMT HMK HMB HF4 HB4 hbw4
                generalize (w4.setCell ⟨mg, moff + c.core.toNat, none⟩ (.int .i64 (md + 1))).drew = w5 at *
                have HPT := Lib.hid (put_calls (S := madeS S c.core.toNat) HF5.out.st hbw5 ⟨HI.out.wk.ni, HI.out.wk.en, HI.out.wk.nam, HI.out.wk.inj⟩ (d := dnum) (i := di) HDA.out (nm := nm) HNSZ.out num)
                obtain ⟨kb, hkb⟩ : ∃ b, (c.kind == 1) = b := ⟨_, rfl⟩
                go_upto_region 11 with (go_at_call 121; refine HPT.out.mono ?_; rintro e w6 ⟨rfl, hB7, hK7, ev6, hT6⟩; have HB6 := Lib.hid (HB5.out.trans ⟨hB7, hK7⟩); have HF6 := Lib.hid (Fr.mk hT6 (hK7.block HF5.out.cB (by decide) (by decide) (by decide)) (hK7.block HF5.out.rB (by decide) (by decide) (by decide)) HF5.out.rb_le); have hbw6 := Nat.le_trans hbw5 hB7.size; clear hB7 hT6 hK7)
                have k0 : w6.cell? ⟨cb, 0, none⟩ = some (.int .i64 c.kind) := HF6.out.cB.cell 0
                obtain ⟨S2, hS2⟩ : ∃ x, x = setE (madeS S c.core.toNat) dnum (insE (nm, num) ((madeS S c.core.toNat).ino di).ents) := ⟨_, rfl⟩
                rw [← hS2] at HF6
                have HS2 := Lib.hid hS2
                have HN2 := Lib.hid (show S2.inodes.length = n by rw [hS2]; exact (mapIno_len ..).trans HNN.out)
                have HL2 := Lib.hid (show S2.opens.length = no by rw [hS2]; exact HNO.out)
                have HM2 := Lib.hid (show S2.made.length = nm_ by rw [hS2]; exact (List.length_set ..).trans HNM.out)
                have HZF := Lib.hid (by have := zipV_fst S2 ev6; rwa [HN2.out] at this)
                clear hS2
                have HX6 := Lib.hid (Blk.new w6 56 #[.int .i64 num, .bool kb, .slice none 0 0, .string ⟨#[]⟩])
                have HB7 := Lib.hid (HB6.out.trans ((below_alloc w6 (Obj.cells #[.int .i64 num, .bool kb, .slice none 0 0, .string ⟨#[]⟩] 56)).bk hbw6))
                have HF7 := Lib.hid (HF6.out.below (below_alloc w6 (Obj.cells #[.int .i64 num, .bool kb, .slice none 0 0, .string ⟨#[]⟩] 56)))
                go_upto_region 12 with (fail)
                obtain ⟨xb, hxb⟩ : ∃ x, x = w6.heap.size := ⟨_, rfl⟩
                rw [← hxb] at HX6 ⊢
                clear hxb k0 HF6 HB6 hbw6
                generalize w6.alloc (Obj.cells #[.int .i64 num, .bool kb, .slice none 0 0, .string ⟨#[]⟩] 56) = w7 at *
                have hbw7 : base ≤ w7.heap.size := by have := HF7.out.rb_le; have := HF7.out.rB.lt; omega
                obtain ⟨q, hq_⟩ : ∃ q, q = w7.heap.size := ⟨_, rfl⟩
                have HQ := Lib.hid hq_
                clear hq_
                go_wp2_with (fail)
                go_loopw [10, 11, 12] (fun v dv i' wr => ∃ (k : Nat) (L : List (Ino × Value)) (dn : Bool), i' = .int .i64 k ∧ dv = .bool dn ∧ k ≤ n ∧ PutG ltP ((⟨num, kb, [], ⟨#[]⟩⟩ : Ino), (.slice none 0 0 : Value)) (zipV S2 ev6 k) L dn ∧ (∃ A cap, v = .slice A L.length cap) ∧ wr.ownsRow q 56 4 v L.length (L.flatMap encI) ∧ Below q w7 wr) (fun _ _ i' _ => n - (intOf i').toNat)
                case atStart => exact ⟨0, [], false, rfl, rfl, by omega, .inl ⟨rfl, rfl, fun e he => by simp [zipV] at he⟩, ⟨_, _, rfl⟩, World.ownsRow_nil _ _ _ _, Below.refl _ _⟩
                case round =>
                  obtain ⟨k, L, dn, rfl, rfl, hk, hpr, ⟨VA, vc, rfl⟩, hown, hb⟩ := hrel
                  have HPR := Lib.hid hpr
                  have HO := Lib.hid hown
                  have HB := Lib.hid hb
                  have HFr := Lib.hid (HF7.out.below (by rw [← HQ.out]; exact hb))
                  have HXr := Lib.hid (HX6.out.below (by rw [← HQ.out]; exact hb))
                  have HLL := Lib.hid (show L.length ≤ 300 by have := hpr.len; rw [zipV_len] at this; omega)
                  have p0 : wr.cell? ⟨ob, 0, none⟩ = some (.slice A n cap) := HFr.out.st.c0
                  clear hpr hown hb
                  by_cases hq : k < n
                  · have hq1 : (k : Int) < (n : Int) := by omega
                    obtain ⟨-, hcap, ig, ioff, rfl, hcell⟩ := (show RowAt w7 (.slice A n cap) n 4 (inoC S2 ev6) by have := HF7.out.st.stm.ino; rwa [HN2.out] at this).at_ hq
                    have hQ0 : w7.cell? ⟨ig, ioff + k * 4, none⟩ = some (.int .i64 (S2.num k)) := hcell 0 (by omega)
                    have hQ1 : w7.cell? ⟨ig, ioff + k * 4 + 1, none⟩ = some (.bool (S2.dir k)) := hcell 1 (by omega)
                    have hQ2 : w7.cell? ⟨ig, ioff + k * 4 + 2, none⟩ = some (ev6 k) := hcell 2 (by omega)
                    have hQ3 : w7.cell? ⟨ig, ioff + k * 4 + 3, none⟩ = some (.string (S2.dat k)) := hcell 3 (by omega)
                    have HZS := Lib.hid (zipV_succ S2 ev6 k).symm
                    obtain ⟨EA, ecap, hev⟩ := (HFr.out.st.stm.ent k (by rw [HN2.out]; exact hq)).form
                    rw [hev] at hQ2 HZS
                    have HEI := Lib.hid (show ∀ v, encI (S2.ino k, v) = [.int .i64 (S2.num k), .bool (S2.dir k), v, .string (S2.dat k)] from fun _ => rfl)
                    have HLT := Lib.hid (show ∀ v v', ltP (⟨num, kb, [], ⟨#[]⟩⟩, v') (S2.ino k, v) = decide (num < S2.num k) from fun _ _ => rfl)
                    clear hcell hev
                    generalize S2.num k = yn at *
                    generalize S2.dir k = yd at *
                    generalize S2.dat k = yt at *
                    generalize S2.ne k = ye at *
                    have HQ0 := Lib.hid hQ0
                    have HQ1 := Lib.hid hQ1
                    have HQ2 := Lib.hid hQ2
                    have HQ3 := Lib.hid hQ3
                    have HQL := Lib.hid (show ig < q by rw [HQ.out]; exact World.block_lt_of_cell? w7 _ hQ0)
                    clear hQ0 hQ1 hQ2 hQ3
                    have q0 : wr.cell? ⟨ig, ioff + k * 4, none⟩ = some (.int .i64 yn) := (HB.out.cell HQL.out).trans HQ0.out
                    have q1 : wr.cell? ⟨ig, ioff + k * 4 + 1, none⟩ = some (.bool yd) := (HB.out.cell HQL.out).trans HQ1.out
                    have q2 : wr.cell? ⟨ig, ioff + k * 4 + 2, none⟩ = some (.slice EA ye ecap) := (HB.out.cell HQL.out).trans HQ2.out
                    have q3 : wr.cell? ⟨ig, ioff + k * 4 + 3, none⟩ = some (.string yt) := (HB.out.cell HQL.out).trans HQ3.out
                    rcases bool_tf dn with rfl | rfl
                    · go_upto_region 20 with (fail)
                      have HENC := Lib.hid (show encI (S2.ino k, .slice EA ye ecap) = [.int .i64 yn, .bool yd, .slice EA ye ecap, .string yt] from HEI.out _)
                      have HNW := Lib.hid (Blk.new wr 56 #[.int .i64 yn, .bool yd, .slice EA ye ecap, .string yt])
                      have HOW := Lib.hid (own_below HO.out (below_alloc wr (Obj.cells #[.int .i64 yn, .bool yd, .slice EA ye ecap, .string yt] 56)))
                      have HBW := Lib.hid (HB.out.trans ((below_alloc wr (Obj.cells #[.int .i64 yn, .bool yd, .slice EA ye ecap, .string yt] 56)).mono (show q ≤ wr.heap.size by have := HB.out.size; have := HQ.out; omega)))
                      have HQW := Lib.hid (show q ≤ (wr.alloc (Obj.cells #[.int .i64 yn, .bool yd, .slice EA ye ecap, .string yt] 56)).heap.size by have := HBW.out.size; have := HQ.out; omega)
                      go_wp2_with (at_builtin; refine wpList_app (enc := encI) _ rfl (.tmp 116) (.tmp 124) 22 56 rfl i0_ _ 56 Try.underlying22 hi hz0 hz1 hz2 rfl (by decide) q _ L rfl HOW.out (.slice (some ⟨wr.heap.size, 0, none⟩) 1 1) rfl [(S2.ino k, .slice EA ye ecap)] (C := fun _ b => [.int .i64 yn, .bool yd, .slice EA ye ecap, .string yt].getD b (.int .i64 0)) (RowAt.blk HNW.out (Nat.le_refl _) (fun a b ha hb => by (obtain rfl : a = 0 := (by simpa using ha)); rcases (show b = 0 ∨ b = 1 ∨ b = 2 ∨ b = 3 by omega) with rfl | rfl | rfl | rfl <;> rfl)) (fun a b ha hb => by (obtain rfl : a = 0 := (by simpa using ha)); (show (encI (S2.ino k, .slice EA ye ecap))[b]? = _); (rw [HENC.out]); rcases (show b = 0 ∨ b = 1 ∨ b = 2 ∨ b = 3 by omega) with rfl | rfl | rfl | rfl <;> rfl) encI_len (fun x hx u hu => by (obtain rfl : x = (S2.ino k, .slice EA ye ecap) := (by simpa using hx)); (rw [HENC.out] at hu); (simp at hu); rcases hu with rfl | rfl | rfl | rfl <;> rfl) (by have := HLL.out; simp only [List.length_cons, List.length_nil] at this ⊢; omega) (by decide) HQW.out ?_; intro A6_ n6_ c6_ w6_ hn6_ hown6_ hgrow6_; have HN6_ := Lib.hid hn6_; have HO6_ := Lib.hid hown6_; have HG6_ := Lib.hid hgrow6_; clear hn6_ hown6_ hgrow6_)
                      have HB6_ := Lib.hid (show Below q w7 w6_ from HBW.out.trans ⟨HG6_.out.os, HG6_.out.tape, HG6_.out.output, HG6_.out.size, fun k' hk' => HG6_.out.block k' (by have := HQW.out; omega) (fun e => by have := (HOW.out.lt k' e.symm).1; omega)⟩)
                      go_roundw
                      case rel => exact ⟨k + 1, _, true, by go_num, rfl, by omega, HZS.out ▸ HPR.out.behind, ⟨A6_, c6_, by rw [HN6_.out]⟩, HO6_.out, HB6_.out⟩
                      case measure =>
                        simp only [intOf]
                        omega
                    · by_cases hlt : num < yn
                      · have x0 : wr.cell? ⟨xb, 0, none⟩ = some (.int .i64 num) := HXr.out.cell 0
                        have x1 : wr.cell? ⟨xb, 1, none⟩ = some (.bool kb) := HXr.out.cell 1
                        have x2 : wr.cell? ⟨xb, 2, none⟩ = some (.slice none 0 0) := HXr.out.cell 2
                        have x3 : wr.cell? ⟨xb, 3, none⟩ = some (.string ⟨#[]⟩) := HXr.out.cell 3
                        have HLB := Lib.hid (show ltP ((⟨num, kb, [], ⟨#[]⟩⟩ : Ino), (.slice none 0 0 : Value)) (S2.ino k, .slice EA ye ecap) = true by rw [HLT.out]; exact decide_eq_true hlt)
                        have HENC := Lib.hid (show encI ((⟨num, kb, [], ⟨#[]⟩⟩ : Ino), (.slice none 0 0 : Value)) = [.int .i64 num, .bool kb, .slice none 0 0, .string ⟨#[]⟩] from rfl)
                        have HNW := Lib.hid (Blk.new wr 56 #[.int .i64 num, .bool kb, .slice none 0 0, .string ⟨#[]⟩])
                        have HOW := Lib.hid (own_below HO.out (below_alloc wr (Obj.cells #[.int .i64 num, .bool kb, .slice none 0 0, .string ⟨#[]⟩] 56)))
                        have HBW := Lib.hid (HB.out.trans ((below_alloc wr (Obj.cells #[.int .i64 num, .bool kb, .slice none 0 0, .string ⟨#[]⟩] 56)).mono (show q ≤ wr.heap.size by have := HB.out.size; have := HQ.out; omega)))
                        have HQW := Lib.hid (show q ≤ (wr.alloc (Obj.cells #[.int .i64 num, .bool kb, .slice none 0 0, .string ⟨#[]⟩] 56)).heap.size by have := HBW.out.size; have := HQ.out; omega)
                        go_upto_region 20 with (at_builtin; refine wpList_app (enc := encI) _ rfl (.tmp 112) (.tmp 114) 22 56 rfl i0_ _ 56 Try.underlying22 hi hz0 hz1 hz2 rfl (by decide) q _ L rfl HOW.out (.slice (some ⟨wr.heap.size, 0, none⟩) 1 1) rfl [((⟨num, kb, [], ⟨#[]⟩⟩ : Ino), (.slice none 0 0 : Value))] (C := fun _ b => [.int .i64 num, .bool kb, .slice none 0 0, .string ⟨#[]⟩].getD b (.int .i64 0)) (RowAt.blk HNW.out (Nat.le_refl _) (fun a b ha hb => by (obtain rfl : a = 0 := (by simpa using ha)); rcases (show b = 0 ∨ b = 1 ∨ b = 2 ∨ b = 3 by omega) with rfl | rfl | rfl | rfl <;> rfl)) (fun a b ha hb => by (obtain rfl : a = 0 := (by simpa using ha)); (show (encI ((⟨num, kb, [], ⟨#[]⟩⟩ : Ino), (.slice none 0 0 : Value)))[b]? = _); (rw [HENC.out]); rcases (show b = 0 ∨ b = 1 ∨ b = 2 ∨ b = 3 by omega) with rfl | rfl | rfl | rfl <;> rfl) encI_len (fun x hx u hu => by (obtain rfl : x = ((⟨num, kb, [], ⟨#[]⟩⟩ : Ino), (.slice none 0 0 : Value)) := (by simpa using hx)); (rw [HENC.out] at hu); (simp at hu); rcases hu with rfl | rfl | rfl | rfl <;> rfl) (by have := HLL.out; simp only [List.length_cons, List.length_nil] at this ⊢; omega) (by decide) HQW.out ?_; intro A4_ n4_ c4_ w4_ hn4_ hown4_ hgrow4_; have HN4 := Lib.hid hn4_; have HO4 := Lib.hid hown4_; have HG4 := Lib.hid hgrow4_; clear hn4_ hown4_ hgrow4_)
                        have HB4 := Lib.hid (show Below q w7 w4_ from HBW.out.trans ⟨HG4.out.os, HG4.out.tape, HG4.out.output, HG4.out.size, fun k' hk' => HG4.out.block k' (by have := HQW.out; omega) (fun e => by have := (HOW.out.lt k' e.symm).1; omega)⟩)
                        have HLL := Lib.hid (show (L ++ [((⟨num, kb, [], ⟨#[]⟩⟩ : Ino), (.slice none 0 0 : Value))]).length ≤ 301 by rw [List.length_append]; have := HLL.out; simp; omega)
                        have hb4 : Below q w7 w4_ := HB4.out
                        have HF4 := Lib.hid (HF7.out.below (by rw [← HQ.out]; exact hb4))
                        clear p0 q0 q1 q2 q3 x0 x1 x2 x3 HENC HNW HOW HBW HQW hb4
                        have p0 : w4_.cell? ⟨ob, 0, none⟩ = some (.slice (some ⟨ig, ioff, none⟩) n cap) := HF4.out.st.c0
                        have q0 : w4_.cell? ⟨ig, ioff + k * 4, none⟩ = some (.int .i64 yn) := (HB4.out.cell HQL.out).trans HQ0.out
                        have q1 : w4_.cell? ⟨ig, ioff + k * 4 + 1, none⟩ = some (.bool yd) := (HB4.out.cell HQL.out).trans HQ1.out
                        have q2 : w4_.cell? ⟨ig, ioff + k * 4 + 2, none⟩ = some (.slice EA ye ecap) := (HB4.out.cell HQL.out).trans HQ2.out
                        have q3 : w4_.cell? ⟨ig, ioff + k * 4 + 3, none⟩ = some (.string yt) := (HB4.out.cell HQL.out).trans HQ3.out
                        have HENC := Lib.hid (show encI (S2.ino k, .slice EA ye ecap) = [.int .i64 yn, .bool yd, .slice EA ye ecap, .string yt] from HEI.out _)
                        have HNW := Lib.hid (Blk.new w4_ 56 #[.int .i64 yn, .bool yd, .slice EA ye ecap, .string yt])
                        have HOW := Lib.hid (own_below HO4.out (below_alloc w4_ (Obj.cells #[.int .i64 yn, .bool yd, .slice EA ye ecap, .string yt] 56)))
                        have HBW := Lib.hid (HB4.out.trans ((below_alloc w4_ (Obj.cells #[.int .i64 yn, .bool yd, .slice EA ye ecap, .string yt] 56)).mono (show q ≤ w4_.heap.size by have := HB4.out.size; have := HQ.out; omega)))
                        have HQW := Lib.hid (show q ≤ (w4_.alloc (Obj.cells #[.int .i64 yn, .bool yd, .slice EA ye ecap, .string yt] 56)).heap.size by have := HBW.out.size; have := HQ.out; omega)
                        go_wp2_with (at_builtin; refine wpList_app (enc := encI) _ rfl (.tmp 116) (.tmp 124) 22 56 rfl i0_ _ 56 Try.underlying22 hi hz0 hz1 hz2 rfl (by decide) q _ (L ++ [((⟨num, kb, [], ⟨#[]⟩⟩ : Ino), (.slice none 0 0 : Value))]) rfl HOW.out (.slice (some ⟨w4_.heap.size, 0, none⟩) 1 1) rfl [(S2.ino k, .slice EA ye ecap)] (C := fun _ b => [.int .i64 yn, .bool yd, .slice EA ye ecap, .string yt].getD b (.int .i64 0)) (RowAt.blk HNW.out (Nat.le_refl _) (fun a b ha hb => by (obtain rfl : a = 0 := (by simpa using ha)); rcases (show b = 0 ∨ b = 1 ∨ b = 2 ∨ b = 3 by omega) with rfl | rfl | rfl | rfl <;> rfl)) (fun a b ha hb => by (obtain rfl : a = 0 := (by simpa using ha)); (show (encI (S2.ino k, .slice EA ye ecap))[b]? = _); (rw [HENC.out]); rcases (show b = 0 ∨ b = 1 ∨ b = 2 ∨ b = 3 by omega) with rfl | rfl | rfl | rfl <;> rfl) encI_len (fun x hx u hu => by (obtain rfl : x = (S2.ino k, .slice EA ye ecap) := (by simpa using hx)); (rw [HENC.out] at hu); (simp at hu); rcases hu with rfl | rfl | rfl | rfl <;> rfl) (by have := HLL.out; simp only [List.length_append, List.length_cons, List.length_nil] at this ⊢; omega) (by decide) HQW.out ?_; intro A6_ n6_ c6_ w6_ hn6_ hown6_ hgrow6_; have HN6_ := Lib.hid hn6_; have HO6_ := Lib.hid hown6_; have HG6_ := Lib.hid hgrow6_; clear hn6_ hown6_ hgrow6_)
                        have HB6_ := Lib.hid (show Below q w7 w6_ from HBW.out.trans ⟨HG6_.out.os, HG6_.out.tape, HG6_.out.output, HG6_.out.size, fun k' hk' => HG6_.out.block k' (by have := HQW.out; omega) (fun e => by have := (HOW.out.lt k' e.symm).1; omega)⟩)
                        go_roundw
                        case rel => exact ⟨k + 1, _, true, by go_num, rfl, by omega, HZS.out ▸ (HPR.out.at_ HLB.out), ⟨A6_, c6_, by rw [HN6_.out]⟩, HO6_.out, HB6_.out⟩
                        case measure =>
                          simp only [intOf]
                          omega
                      · have HLB := Lib.hid (show ltP ((⟨num, kb, [], ⟨#[]⟩⟩ : Ino), (.slice none 0 0 : Value)) (S2.ino k, .slice EA ye ecap) = false by rw [HLT.out]; exact decide_eq_false hlt)
                        go_upto_region 20 with (fail)
                        have HENC := Lib.hid (show encI (S2.ino k, .slice EA ye ecap) = [.int .i64 yn, .bool yd, .slice EA ye ecap, .string yt] from HEI.out _)
                        have HNW := Lib.hid (Blk.new wr 56 #[.int .i64 yn, .bool yd, .slice EA ye ecap, .string yt])
                        have HOW := Lib.hid (own_below HO.out (below_alloc wr (Obj.cells #[.int .i64 yn, .bool yd, .slice EA ye ecap, .string yt] 56)))
                        have HBW := Lib.hid (HB.out.trans ((below_alloc wr (Obj.cells #[.int .i64 yn, .bool yd, .slice EA ye ecap, .string yt] 56)).mono (show q ≤ wr.heap.size by have := HB.out.size; have := HQ.out; omega)))
                        have HQW := Lib.hid (show q ≤ (wr.alloc (Obj.cells #[.int .i64 yn, .bool yd, .slice EA ye ecap, .string yt] 56)).heap.size by have := HBW.out.size; have := HQ.out; omega)
                        go_wp2_with (at_builtin; refine wpList_app (enc := encI) _ rfl (.tmp 116) (.tmp 124) 22 56 rfl i0_ _ 56 Try.underlying22 hi hz0 hz1 hz2 rfl (by decide) q _ L rfl HOW.out (.slice (some ⟨wr.heap.size, 0, none⟩) 1 1) rfl [(S2.ino k, .slice EA ye ecap)] (C := fun _ b => [.int .i64 yn, .bool yd, .slice EA ye ecap, .string yt].getD b (.int .i64 0)) (RowAt.blk HNW.out (Nat.le_refl _) (fun a b ha hb => by (obtain rfl : a = 0 := (by simpa using ha)); rcases (show b = 0 ∨ b = 1 ∨ b = 2 ∨ b = 3 by omega) with rfl | rfl | rfl | rfl <;> rfl)) (fun a b ha hb => by (obtain rfl : a = 0 := (by simpa using ha)); (show (encI (S2.ino k, .slice EA ye ecap))[b]? = _); (rw [HENC.out]); rcases (show b = 0 ∨ b = 1 ∨ b = 2 ∨ b = 3 by omega) with rfl | rfl | rfl | rfl <;> rfl) encI_len (fun x hx u hu => by (obtain rfl : x = (S2.ino k, .slice EA ye ecap) := (by simpa using hx)); (rw [HENC.out] at hu); (simp at hu); rcases hu with rfl | rfl | rfl | rfl <;> rfl) (by have := HLL.out; simp only [List.length_cons, List.length_nil] at this ⊢; omega) (by decide) HQW.out ?_; intro A6_ n6_ c6_ w6_ hn6_ hown6_ hgrow6_; have HN6_ := Lib.hid hn6_; have HO6_ := Lib.hid hown6_; have HG6_ := Lib.hid hgrow6_; clear hn6_ hown6_ hgrow6_)
                        have HB6_ := Lib.hid (show Below q w7 w6_ from HBW.out.trans ⟨HG6_.out.os, HG6_.out.tape, HG6_.out.output, HG6_.out.size, fun k' hk' => HG6_.out.block k' (by have := HQW.out; omega) (fun e => by have := (HOW.out.lt k' e.symm).1; omega)⟩)
                        go_roundw
                        case rel => exact ⟨k + 1, _, false, by go_num, rfl, by omega, HZS.out ▸ (HPR.out.past HLB.out), ⟨A6_, c6_, by rw [HN6_.out]⟩, HO6_.out, HB6_.out⟩
                        case measure =>
                          simp only [intOf]
                          omega
                  · obtain rfl : k = n := by omega
                    have hb7 : ∀ {W : World}, Below q w7 W → Below w7.heap.size w7 W := fun h => by rw [← HQ.out]; exact h
                    have HPUTI := Lib.hid (fun (W : World) (hW : Below q w7 W) (L' : List (Ino × Value)) (v : Value) (hL : L' = insBy ltP ((⟨num, kb, [], ⟨#[]⟩⟩ : Ino), (.slice none 0 0 : Value)) (zipV S2 ev6 k)) (hv : W.ownsRow q 56 4 v L'.length (L'.flatMap encI)) =>
                      show W.frozen? ⟨ob, 0, none⟩ = false ∧ Bk base W (W.setCell ⟨ob, 0, none⟩ v) ∧ Fr (W.setCell ⟨ob, 0, none⟩ v) base ob cb rb v (.slice OA no ocap) (.slice (some ⟨mg, moff, none⟩) nm_ mcap) (fun i => (L'.getD i (noIno, .int .i64 0)).2) (makeS S c.core.toNat dnum (insE (nm, num) (S.ino di).ents) ⟨num, kb, [], ⟨#[]⟩⟩) c from by
                        have hF := HF7.out.below (hb7 hW)
                        have hbq : base ≤ q := by rw [HQ.out]; exact hbw7
                        have hfst : L'.map (·.1) = (makeS S c.core.toNat dnum (insE (nm, num) (S.ino di).ents) ⟨num, kb, [], ⟨#[]⟩⟩).inodes := by
                          rw [hL, insBy_fst, HZF.out, HS2.out]; rfl
                        have hop : (makeS S c.core.toNat dnum (insE (nm, num) (S.ino di).ents) ⟨num, kb, [], ⟨#[]⟩⟩).opens = S2.opens := by rw [HS2.out]; rfl
                        have hmd : (makeS S c.core.toNat dnum (insE (nm, num) (S.ino di).ents) ⟨num, kb, [], ⟨#[]⟩⟩).made = S2.made := by rw [HS2.out]; rfl
                        have hoc : opnC (makeS S c.core.toNat dnum (insE (nm, num) (S.ino di).ents) ⟨num, kb, [], ⟨#[]⟩⟩) = opnC S2 := by unfold opnC St.oc St.of St.on; rw [hop]
                        have hmc : madC (makeS S c.core.toNat dnum (insE (nm, num) (S.ino di).ents) ⟨num, kb, [], ⟨#[]⟩⟩) = madC S2 := by unfold madC St.mad; rw [hmd]
                        have hents : ∀ x ∈ L', RowT W base 58 2 x.2 x.1.ents.length (entL x.1.ents) := by
                          intro x hx
                          rw [hL] at hx
                          rcases mem_insBy.1 hx with rfl | hx
                          · exact RowT.nil_ _ _ _ _ _
                          · obtain ⟨j, hj, rfl⟩ := List.mem_map.1 hx
                            exact hF.st.row.ent j (by rw [HN2.out]; simpa using hj)
                        have hrow := StV.of_list hfst (own_base hv hbq) hents (by rw [hop, hoc]; exact hF.st.row.opn) (by rw [hmd, hmc]; exact hF.st.row.mad)
                        refine ⟨hF.st.sat.frozen 0, ⟨(Below.refl _ W).setCell (p := ⟨ob, 0, none⟩) hF.st.ob_le v, (Kp.of_below (Below.refl _ W)).set hF.st.sat (.inr (.inl rfl)) 0 v⟩, ⟨?_, hF.st.ob_le, hrow.far hF.st.sat (by decide) (by decide) (by decide) (by decide) 0 v⟩, hF.cB.far (p := ⟨ob, 0, none⟩) (Blk.ne_ hF.cB hF.st.sat (by decide)) v, hF.rB.far (p := ⟨ob, 0, none⟩) (Blk.ne_ hF.rB hF.st.sat (by decide)) v, hF.rb_le⟩
                        have h := hF.st.sat.set_ 0 v
                        exact h)
                    have HINV := Lib.hid (HI.out.make HDA.out.mem.1 HDA.out.mem.2 HDD.out (c := c.core.toNat) (by have := HNM.out; omega) (by rw [HMD.out]; omega) (nm := nm) (num := num) (by rw [HNUM.out, HMD.out]; omega) HNM_.out (entIn_zero (HI.out.ent_pos HDA.out.mem.1) HEZ.out.symm) HFL.out kb)
                    have hbs : ∀ {W : World}, Below q w7 W → base ≤ W.heap.size := fun h => Nat.le_trans hbw7 h.size
                    rcases bool_tf dn with rfl | rfl
                    · obtain ⟨hf0, hBE, hFE⟩ := HPUTI.out wr HB.out L (.slice VA L.length vc) HPR.out.done HO.out
                      have HBE := Lib.hid hBE
                      have HF8 := Lib.hid hFE
                      have hbz := hbs HB.out
                      clear hFE hBE
                      go_wp2_with (go_at_call 94; refine (fail2 _ _).mono ?_; rintro e wz ⟨rfl, hBz⟩; have HZ := Lib.hid (HF8.out.below hBz); have r0 : wz.cell? ⟨rb, 0, none⟩ = some (.int .i64 0) := HZ.out.rB.cell 0; have l0 := HZ.out.rB.frozen 0; have r1 : wz.cell? ⟨rb, 1, none⟩ = some (.int .i64 0) := HZ.out.rB.cell 1; have l1 := HZ.out.rB.frozen 1; have r2 : wz.cell? ⟨rb, 2, none⟩ = some (.int .i64 0) := HZ.out.rB.cell 2; have l2 := HZ.out.rB.frozen 2; have r3 : wz.cell? ⟨rb, 3, none⟩ = some (.bool false) := HZ.out.rB.cell 3; have l3 := HZ.out.rB.frozen 3; have r4 : wz.cell? ⟨rb, 4, none⟩ = some (.string ⟨#[]⟩) := HZ.out.rB.cell 4; have l4 := HZ.out.rB.frozen 4; have r5 : wz.cell? ⟨rb, 5, none⟩ = some (.slice none 0 0) := HZ.out.rB.cell 5; have l5 := HZ.out.rB.frozen 5; have HBZ := Lib.hid hBz; clear hBz)
                      refine bodyPost_ret (v := .agg #[.int .i64 0, .int .i64 0, .int .i64 0, .bool false, .string ⟨#[]⟩, .slice none 0 0]) ?_ rfl ⟨⟨0, _, _, _, _, _, _, _, rfl, fun _ => ⟨_, _, _, _, _, HINV.out, HZ.out.st.set6 HZ.out.rB _ _ _ _ _ _⟩⟩, Bk.set6 (HB7.out.trans (((hb7 HB.out).bk hbw7).trans (HBE.out.trans (HBZ.out.bk (by simpa [World.setCell] using hbz))))) HZ.out.rb_le (by have := HRB.out; omega) _ _ _ _ _ _⟩
                      simp [results, Try.results95, go_sem, r0, r1, r2, r3, r4, r5]
                    · have x0 : wr.cell? ⟨xb, 0, none⟩ = some (.int .i64 num) := HXr.out.cell 0
                      have x1 : wr.cell? ⟨xb, 1, none⟩ = some (.bool kb) := HXr.out.cell 1
                      have x2 : wr.cell? ⟨xb, 2, none⟩ = some (.slice none 0 0) := HXr.out.cell 2
                      have x3 : wr.cell? ⟨xb, 3, none⟩ = some (.string ⟨#[]⟩) := HXr.out.cell 3
                      have HENC := Lib.hid (show encI ((⟨num, kb, [], ⟨#[]⟩⟩ : Ino), (.slice none 0 0 : Value)) = [.int .i64 num, .bool kb, .slice none 0 0, .string ⟨#[]⟩] from rfl)
                      have HNW := Lib.hid (Blk.new wr 56 #[.int .i64 num, .bool kb, .slice none 0 0, .string ⟨#[]⟩])
                      have HOW := Lib.hid (own_below HO.out (below_alloc wr (Obj.cells #[.int .i64 num, .bool kb, .slice none 0 0, .string ⟨#[]⟩] 56)))
                      have HBW := Lib.hid (HB.out.trans ((below_alloc wr (Obj.cells #[.int .i64 num, .bool kb, .slice none 0 0, .string ⟨#[]⟩] 56)).mono (show q ≤ wr.heap.size by have := HB.out.size; have := HQ.out; omega)))
                      have HQW := Lib.hid (show q ≤ (wr.alloc (Obj.cells #[.int .i64 num, .bool kb, .slice none 0 0, .string ⟨#[]⟩] 56)).heap.size by have := HBW.out.size; have := HQ.out; omega)
                      go_upto_region 23 with (at_builtin; refine wpList_app (enc := encI) _ rfl (.tmp 128) (.tmp 130) 22 56 rfl i0_ _ 56 Try.underlying22 hi hz0 hz1 hz2 rfl (by decide) q _ L rfl HOW.out (.slice (some ⟨wr.heap.size, 0, none⟩) 1 1) rfl [((⟨num, kb, [], ⟨#[]⟩⟩ : Ino), (.slice none 0 0 : Value))] (C := fun _ b => [.int .i64 num, .bool kb, .slice none 0 0, .string ⟨#[]⟩].getD b (.int .i64 0)) (RowAt.blk HNW.out (Nat.le_refl _) (fun a b ha hb => by (obtain rfl : a = 0 := (by simpa using ha)); rcases (show b = 0 ∨ b = 1 ∨ b = 2 ∨ b = 3 by omega) with rfl | rfl | rfl | rfl <;> rfl)) (fun a b ha hb => by (obtain rfl : a = 0 := (by simpa using ha)); (show (encI ((⟨num, kb, [], ⟨#[]⟩⟩ : Ino), (.slice none 0 0 : Value)))[b]? = _); (rw [HENC.out]); rcases (show b = 0 ∨ b = 1 ∨ b = 2 ∨ b = 3 by omega) with rfl | rfl | rfl | rfl <;> rfl) encI_len (fun x hx u hu => by (obtain rfl : x = ((⟨num, kb, [], ⟨#[]⟩⟩ : Ino), (.slice none 0 0 : Value)) := (by simpa using hx)); (rw [HENC.out] at hu); (simp at hu); rcases hu with rfl | rfl | rfl | rfl <;> rfl) (by have := HLL.out; simp only [List.length_cons, List.length_nil] at this ⊢; omega) (by decide) HQW.out ?_; intro A6_ n6_ c6_ w6_ hn6_ hown6_ hgrow6_; have HN6_ := Lib.hid hn6_; have HO6_ := Lib.hid hown6_; have HG6_ := Lib.hid hgrow6_; clear hn6_ hown6_ hgrow6_)
                      have HB6_ := Lib.hid (show Below q w7 w6_ from HBW.out.trans ⟨HG6_.out.os, HG6_.out.tape, HG6_.out.output, HG6_.out.size, fun k' hk' => HG6_.out.block k' (by have := HQW.out; omega) (fun e => by have := (HOW.out.lt k' e.symm).1; omega)⟩)
                      obtain ⟨hf0, hBE, hFE⟩ := HPUTI.out w6_ HB6_.out (L ++ [((⟨num, kb, [], ⟨#[]⟩⟩ : Ino), (.slice none 0 0 : Value))]) (.slice A6_ n6_ c6_) HPR.out.last HO6_.out
                      have HBE := Lib.hid hBE
                      have HF8 := Lib.hid hFE
                      have hbz := hbs HB6_.out
                      have p0 : w6_.cell? ⟨ob, 0, none⟩ = some (.slice A k cap) := (HF7.out.below (hb7 HB6_.out)).st.c0
                      clear hFE hBE x0 x1 x2 x3
                      go_wp2_with (go_at_call 94; refine (fail2 _ _).mono ?_; rintro e wz ⟨rfl, hBz⟩; have HZ := Lib.hid (HF8.out.below hBz); have r0 : wz.cell? ⟨rb, 0, none⟩ = some (.int .i64 0) := HZ.out.rB.cell 0; have l0 := HZ.out.rB.frozen 0; have r1 : wz.cell? ⟨rb, 1, none⟩ = some (.int .i64 0) := HZ.out.rB.cell 1; have l1 := HZ.out.rB.frozen 1; have r2 : wz.cell? ⟨rb, 2, none⟩ = some (.int .i64 0) := HZ.out.rB.cell 2; have l2 := HZ.out.rB.frozen 2; have r3 : wz.cell? ⟨rb, 3, none⟩ = some (.bool false) := HZ.out.rB.cell 3; have l3 := HZ.out.rB.frozen 3; have r4 : wz.cell? ⟨rb, 4, none⟩ = some (.string ⟨#[]⟩) := HZ.out.rB.cell 4; have l4 := HZ.out.rB.frozen 4; have r5 : wz.cell? ⟨rb, 5, none⟩ = some (.slice none 0 0) := HZ.out.rB.cell 5; have l5 := HZ.out.rB.frozen 5; have HBZ := Lib.hid hBz; clear hBz)
                      refine bodyPost_ret (v := .agg #[.int .i64 0, .int .i64 0, .int .i64 0, .bool false, .string ⟨#[]⟩, .slice none 0 0]) ?_ rfl ⟨⟨0, _, _, _, _, _, _, _, rfl, fun _ => ⟨_, _, _, _, _, HINV.out, HZ.out.st.set6 HZ.out.rB _ _ _ _ _ _⟩⟩, Bk.set6 (HB7.out.trans (((hb7 HB6_.out).bk hbw7).trans (HBE.out.trans (HBZ.out.bk (by simpa [World.setCell] using hbz))))) HZ.out.rb_le (by have := HRB.out; omega) _ _ _ _ _ _⟩
                      simp [results, Try.results95, go_sem, r0, r1, r2, r3, r4, r5]
      · have he1 : (en != 0) = true := by simpa using he0
        clear he0
        go_wp2_with (first | (go_at_call 119; refine HCE.out.mono ?_; rintro e w4 ⟨rfl, hB4⟩; have HB4 := Lib.hid hB4; have HF4 := Lib.hid (HF1.out.below hB4); clear hB4) | (go_at_call 94; refine (fail2 _ _).mono ?_; rintro e wz ⟨rfl, hBz⟩; have HZ := Lib.hid (HF4.out.below hBz); have r0 : wz.cell? ⟨rb, 0, none⟩ = some (.int .i64 0) := HZ.out.rB.cell 0; have l0 := HZ.out.rB.frozen 0; have r1 : wz.cell? ⟨rb, 1, none⟩ = some (.int .i64 0) := HZ.out.rB.cell 1; have l1 := HZ.out.rB.frozen 1; have r2 : wz.cell? ⟨rb, 2, none⟩ = some (.int .i64 0) := HZ.out.rB.cell 2; have l2 := HZ.out.rB.frozen 2; have r3 : wz.cell? ⟨rb, 3, none⟩ = some (.bool false) := HZ.out.rB.cell 3; have l3 := HZ.out.rB.frozen 3; have r4 : wz.cell? ⟨rb, 4, none⟩ = some (.string ⟨#[]⟩) := HZ.out.rB.cell 4; have l4 := HZ.out.rB.frozen 4; have r5 : wz.cell? ⟨rb, 5, none⟩ = some (.slice none 0 0) := HZ.out.rB.cell 5; have l5 := HZ.out.rB.frozen 5; have HBZ := Lib.hid hBz; clear hBz))
        refine bodyPost_ret (v := .agg #[.int .i64 2, .int .i64 0, .int .i64 0, .bool false, .string ⟨#[]⟩, .slice none 0 0]) ?_ rfl ⟨⟨2, _, _, _, _, _, _, _, rfl, fun h => absurd h (by decide)⟩, Bk.set6 (HB1.out.trans ((HB4.out.trans (HBZ.out.mono HB4.out.size)).bk hbw1)) HZ.out.rb_le (by have := HRB.out; omega) _ _ _ _ _ _⟩
        simp [results, Try.results95, go_sem, r0, r1, r2, r3, r4, r5]
    · have hd1 : (code2 != 0) = true := by simpa using hd0
      have HC0 := Lib.hid hd0
      clear hd0
      go_wp2_with (go_at_call 94; refine (fail2 _ _).mono ?_; rintro e wz ⟨rfl, hBz⟩; have HZ := Lib.hid (HF1.out.below hBz); have r0 : wz.cell? ⟨rb, 0, none⟩ = some (.int .i64 0) := HZ.out.rB.cell 0; have l0 := HZ.out.rB.frozen 0; have r1 : wz.cell? ⟨rb, 1, none⟩ = some (.int .i64 0) := HZ.out.rB.cell 1; have l1 := HZ.out.rB.frozen 1; have r2 : wz.cell? ⟨rb, 2, none⟩ = some (.int .i64 0) := HZ.out.rB.cell 2; have l2 := HZ.out.rB.frozen 2; have r3 : wz.cell? ⟨rb, 3, none⟩ = some (.bool false) := HZ.out.rB.cell 3; have l3 := HZ.out.rB.frozen 3; have r4 : wz.cell? ⟨rb, 4, none⟩ = some (.string ⟨#[]⟩) := HZ.out.rB.cell 4; have l4 := HZ.out.rB.frozen 4; have r5 : wz.cell? ⟨rb, 5, none⟩ = some (.slice none 0 0) := HZ.out.rB.cell 5; have l5 := HZ.out.rB.frozen 5; have HBZ := Lib.hid hBz; clear hBz)
      refine bodyPost_ret (v := .agg #[.int .i64 code2, .int .i64 0, .int .i64 0, .bool false, .string ⟨#[]⟩, .slice none 0 0]) ?_ rfl ⟨⟨code2, _, _, _, _, _, _, _, rfl, fun h => absurd h (HC0.out)⟩, Bk.set6 (HB1.out.trans (HBZ.out.bk hbw1)) HZ.out.rb_le (by have := HRB.out; omega) _ _ _ _ _ _⟩
      simp [results, Try.results95, go_sem, r0, r1, r2, r3, r4, r5]
end Go.Proofs.Ytenlffhoinialaa
