/- The document's looks. (Printed in part by genact13.py.) -/
import Derived.Test.YtenlffhoinialaaMDo19
namespace Go.Proofs.Ytenlffhoinialaa
open Go.RowKit
set_option maxHeartbeats 2000000
attribute [local go_sem ↓] Go.wp_at_zero Go.wp_at_succ
/-- What a look answers. -/
def LookR (e : Ending) : Prop := ∃ (code fd num : Int) (dr : Bool) (dat : ByteArray) (nA : Option Addr) (nl nc : Nat), e = .returned (.agg #[.int .i64 code, .int .i64 fd, .int .i64 num, .bool dr, .string dat, .slice nA nl nc])
structure FrL (w : World) (p cb rb : Nat) (iv ov mv : Value) (ev : Nat → Value) (S : St) (c : CallD) : Prop where
  stm : StM w iv ov mv ev S
  pB : Blk w p 26 #[iv, ov, mv]
  cB : Blk w cb 51 #[.int .i64 c.kind, .int .i64 c.core, .int .i64 c.fd, .int .i64 c.off, .int .i64 c.num, .string c.path, .string c.path2, .string c.data]
  rB : Blk w rb 47 #[.int .i64 0, .int .i64 0, .int .i64 0, .bool false, .string ⟨#[]⟩, .slice none 0 0]
theorem FrL.below {w w' : World} {p cb rb : Nat} {iv ov mv : Value} {ev : Nat → Value} {S : St} {c : CallD} (h : FrL w p cb rb iv ov mv ev S c) (hb : Below w.heap.size w w') : FrL w' p cb rb iv ov mv ev S c := ⟨h.stm.keep hb, h.pB.below hb, h.cB.below hb, h.rB.below hb⟩
set_option maxRecDepth 1000000 in
theorem looks_calls {w : World} {iv ov mv : Value} {ev : Nat → Value} {S : St} (hS : StM w iv ov mv ev S) (hI : Inv S) (c : CallD) :
    Calls Try.prog 99 #[.agg #[iv, ov, mv], .agg #[.int .i64 c.kind, .int .i64 c.core, .int .i64 c.fd, .int .i64 c.off, .int .i64 c.num, .string c.path, .string c.path2, .string c.data]] w fun e w' => LookR e ∧ Below w.heap.size w w' := by
  obtain ⟨i0_, hi, hz0, hz1, hz2⟩ := info_parts info_str1
  obtain ⟨A, cap, rfl⟩ := hS.ino.form
  obtain ⟨OA, ocap, rfl⟩ := hS.opn.form
  obtain ⟨MA, mcap, rfl⟩ := hS.mad.form
  have hni := hI.ni
  have HI := Lib.hid hI
  have HS := Lib.hid hS
  obtain ⟨n, hnn⟩ : ∃ n, S.inodes.length = n := ⟨_, rfl⟩
  obtain ⟨no, hno⟩ : ∃ n, S.opens.length = n := ⟨_, rfl⟩
  obtain ⟨nm_, hnm⟩ : ∃ n, S.made.length = n := ⟨_, rfl⟩
  have HNN := Lib.hid hnn
  rw [hno, hnm] at HS ⊢
  rw [hnn] at HS hni ⊢
  clear hS hI hnn hno hnm
  have HB0 := Lib.hid (show Below w.heap.size w (((w.alloc (.cells #[.slice A n cap, .slice OA no ocap, .slice MA nm_ mcap] 26)).alloc (.cells #[.int .i64 c.kind, .int .i64 c.core, .int .i64 c.fd, .int .i64 c.off, .int .i64 c.num, .string c.path, .string c.path2, .string c.data] 51)).alloc (.cells #[.int .i64 0, .int .i64 0, .int .i64 0, .bool false, .string ⟨#[]⟩, .slice none 0 0] 47)) from (((Below.refl _ _).alloc (Nat.le_refl _) _).alloc (by simp) _).alloc (by simp; omega) _)
  have HF0 := Lib.hid (FrL.mk (HS.out.keep HB0.out) (((Blk.new w 26 #[.slice A n cap, .slice OA no ocap, .slice MA nm_ mcap]).alloc (.cells #[.int .i64 c.kind, .int .i64 c.core, .int .i64 c.fd, .int .i64 c.off, .int .i64 c.num, .string c.path, .string c.path2, .string c.data] 51)).alloc (.cells #[.int .i64 0, .int .i64 0, .int .i64 0, .bool false, .string ⟨#[]⟩, .slice none 0 0] 47)) ((Blk.newAt (w.alloc (.cells #[.slice A n cap, .slice OA no ocap, .slice MA nm_ mcap] 26)) 51 #[.int .i64 c.kind, .int .i64 c.core, .int .i64 c.fd, .int .i64 c.off, .int .i64 c.num, .string c.path, .string c.path2, .string c.data] (n := w.heap.size + 1) (by simp)).alloc (.cells #[.int .i64 0, .int .i64 0, .int .i64 0, .bool false, .string ⟨#[]⟩, .slice none 0 0] 47)) (Blk.newAt ((w.alloc (.cells #[.slice A n cap, .slice OA no ocap, .slice MA nm_ mcap] 26)).alloc (.cells #[.int .i64 c.kind, .int .i64 c.core, .int .i64 c.fd, .int .i64 c.off, .int .i64 c.num, .string c.path, .string c.path2, .string c.data] 51)) 47 #[.int .i64 0, .int .i64 0, .int .i64 0, .bool false, .string ⟨#[]⟩, .slice none 0 0] (n := w.heap.size + 1 + 1) (by simp)))
  go_enter Try.func99, Try.ntmps99
  go_upto_region 1 with (fail)
  obtain ⟨p, hp⟩ : ∃ x, x = w.heap.size := ⟨_, rfl⟩
  have HP := Lib.hid hp
  rw [← hp] at HF0 HB0
  rw [← hp]
  obtain ⟨cb, hcb⟩ : ∃ x, x = p + 1 := ⟨_, rfl⟩
  rw [← hcb] at HF0
  rw [← hcb]
  obtain ⟨rb, hrb⟩ : ∃ x, x = cb + 1 := ⟨_, rfl⟩
  have HRL := Lib.hid (show p ≤ rb by omega)
  rw [← hrb] at HF0
  rw [← hrb]
  clear hcb hrb hp HS
  generalize ((w.alloc (.cells #[.slice A n cap, .slice OA no ocap, .slice MA nm_ mcap] 26)).alloc (.cells #[.int .i64 c.kind, .int .i64 c.core, .int .i64 c.fd, .int .i64 c.off, .int .i64 c.num, .string c.path, .string c.path2, .string c.data] 51)).alloc (.cells #[.int .i64 0, .int .i64 0, .int .i64 0, .bool false, .string ⟨#[]⟩, .slice none 0 0] 47) = w0 at *
  have hpw0 : p ≤ w0.heap.size := Nat.le_of_lt HF0.out.pB.lt
  have p0 : w0.cell? ⟨p, 0, none⟩ = some (.slice A n cap) := HF0.out.pB.cell 0
  have p1 : w0.cell? ⟨p, 1, none⟩ = some (.slice OA no ocap) := HF0.out.pB.cell 1
  have p2 : w0.cell? ⟨p, 2, none⟩ = some (.slice MA nm_ mcap) := HF0.out.pB.cell 2
  have k5 : w0.cell? ⟨cb, 5, none⟩ = some (.string c.path) := HF0.out.cB.cell 5
  go_upto_region 2 with (go_at_call 122; refine (Find_calls HF0.out.stm HI.out c.path).mono ?_; rintro e w1 ⟨num, code, rfl, hfr, hB1⟩; have HFR := Lib.hid hfr; have HB1 := Lib.hid (HB0.out.trans (hB1.mono hpw0)); have HF1 := Lib.hid (HF0.out.below hB1); clear hfr hB1)
  have hpw1 : p ≤ w1.heap.size := Nat.le_of_lt HF1.out.pB.lt
  clear p0 p1 p2 k5 HF0 HB0 hpw0
  by_cases hc0 : code = 0
  · subst hc0
    obtain ⟨i, hha⟩ := (HFR.out.resolve_left (fun h => h rfl)).2
    have HHA := Lib.hid hha
    have hil : i < n := by have := hha.1; rwa [HNN.out] at this
    have hil1 : (i : Int) < (n : Int) := by omega
    have hil2 : (0 : Int) ≤ (i : Int) := by omega
    have ei : IntKind.i64.wrap (i : Int) = (i : Int) := IntWalk.i64_in _ (by omega)
    obtain ⟨-, -, ig, ioff, rfl, hcell⟩ := (show RowAt w1 (.slice A n cap) n 4 (inoC S ev) by have := HF1.out.stm.ino; rwa [HNN.out] at this).at_ hil
    have q0 : w1.cell? ⟨ig, ioff + i * 4, none⟩ = some (.int .i64 (S.num i)) := hcell 0 (by omega)
    have q1 : w1.cell? ⟨ig, ioff + i * 4 + 1, none⟩ = some (.bool (S.dir i)) := hcell 1 (by omega)
    have q2 : w1.cell? ⟨ig, ioff + i * 4 + 2, none⟩ = some (ev i) := hcell 2 (by omega)
    have q3 : w1.cell? ⟨ig, ioff + i * 4 + 3, none⟩ = some (.string (S.dat i)) := hcell 3 (by omega)
    have HEW := Lib.hid (HF1.out.stm.ent i (by rw [HNN.out]; exact hil))
    obtain ⟨EA, ecap, hev⟩ := HEW.out.form
    rw [hev] at q2 HEW
    clear hcell hev
    obtain ⟨xn, hxn⟩ : ∃ x, S.num i = x := ⟨_, rfl⟩
    obtain ⟨dr, hdr⟩ : ∃ x, S.dir i = x := ⟨_, rfl⟩
    obtain ⟨dat, hdt⟩ : ∃ x, S.dat i = x := ⟨_, rfl⟩
    obtain ⟨ne, hne⟩ : ∃ x, S.ne i = x := ⟨_, rfl⟩
    have HXN := Lib.hid hxn
    have HDRR := Lib.hid hdr
    have HDT := Lib.hid hdt
    have HNE := Lib.hid hne
    rw [hxn] at q0
    rw [hdr] at q1
    rw [hdt] at q3
    rw [hne] at q2 HEW
    clear hxn hdr hdt hne
    have p0 : w1.cell? ⟨p, 0, none⟩ = some (.slice (some ⟨ig, ioff, none⟩) n cap) := HF1.out.pB.cell 0
    have p1 : w1.cell? ⟨p, 1, none⟩ = some (.slice OA no ocap) := HF1.out.pB.cell 1
    have p2 : w1.cell? ⟨p, 2, none⟩ = some (.slice MA nm_ mcap) := HF1.out.pB.cell 2
    have hen : ne ≤ 32 := by rw [← HNE.out]; exact HI.out.en HHA.out.mem.1
    have HCA := Lib.hid (fun W hW => by have := At_calls (S := S) (w := W) (iv := .slice (some ⟨ig, ioff, none⟩) n cap) (ov := .slice OA no ocap) (mv := .slice MA nm_ mcap) (ev := ev) hW (by rw [HNN.out]; omega) num; rwa [hha.2.1] at this)
    clear hha
    go_upto_region 4 with (fail)
    go_cut [7] (fun s wx => ∃ b, s = .pointer (some ⟨b, 0, none⟩) ∧ w1.heap.size ≤ b ∧ Blk wx b 56 #[.int .i64 xn, .bool dr, .slice EA ne ecap, .string dat] ∧ Below w1.heap.size w1 wx)
    case first =>
      refine wp_region_held_drew (S := fun w' => (w'.cell? ⟨p, 0, none⟩ = some (.slice (some ⟨ig, ioff, none⟩) n cap) ∧ w'.cell? ⟨p, 1, none⟩ = some (.slice OA no ocap) ∧ w'.cell? ⟨p, 2, none⟩ = some (.slice MA nm_ mcap) ∧ w'.cell? ⟨ig, ioff + i * 4, none⟩ = some (.int .i64 xn) ∧ w'.cell? ⟨ig, ioff + i * 4 + 1, none⟩ = some (.bool dr) ∧ w'.cell? ⟨ig, ioff + i * 4 + 2, none⟩ = some (.slice EA ne ecap) ∧ w'.cell? ⟨ig, ioff + i * 4 + 3, none⟩ = some (.string dat))) (by kernel_rfl) (⟨p0, p1, p2, q0, q1, q2, q3⟩) (fun hHeld => ?_)
      refine wpAnyH_take (i := 0) (oi := ⟨some 21, _, _, _, _, _⟩) (v := .pointer (some ⟨p, 0, none⟩)) rfl (by kernel_rfl) (by kernel_rfl) (by kernel_rfl) (fun _ _ _ h => h) (Or.inl ⟨by kernel_rfl, fun w hSw => by go_simp⟩) (by assumption) ?_
      simp only [Act.put, lTA, lC0, lCS]
      refine wpAnyH_take (i := 1) (oi := ⟨some 22, _, _, _, _, _⟩) (v := .slice (some ⟨ig, ioff, none⟩) n cap) rfl (by kernel_rfl) (by kernel_rfl) (by kernel_rfl) (fun _ _ _ h => h) (Or.inl ⟨by kernel_rfl, fun w hSw => by go_simp⟩) (by assumption) ?_
      simp only [Act.put, lTA, lC0, lCS]
      refine wpAnyH_take (i := 2) (oi := ⟨some 23, _, _, _, _, _⟩) (v := .agg #[.slice (some ⟨ig, ioff, none⟩) n cap, .slice OA no ocap, .slice MA nm_ mcap]) rfl (by kernel_rfl) (by kernel_rfl) (by kernel_rfl) (fun _ _ _ h => h) (Or.inl ⟨by kernel_rfl, fun w hSw => by go_simp⟩) (by assumption) ?_
      simp only [Act.put, lTA, lC0, lCS]
      refine wpAnyH_take (i := 3) (oi := ⟨some 24, _, _, _, _, _⟩) (v := .int .i64 num) rfl (by kernel_rfl) (by kernel_rfl) (by kernel_rfl) (fun _ _ _ h => h) (Or.inl ⟨by kernel_rfl, fun w hSw => by go_simp⟩) (by assumption) ?_
      simp only [Act.put, lTA, lC0, lCS]
      refine wpAnyH_ready (rs := [4, 7]) (by kernel_rfl) (by simp) ?_
      refine AllReadyH.cons rfl (fun K hK => ?_) (AllReadyH.cons rfl (fun K hK => ?_) AllReadyH.nil)
      · go_simp
        refine (HCA.out _ (HF1.out.stm.keep (below_drew1 w1))).mono ?_
        rintro e w6 ⟨rfl, hB6⟩
        show K _ _
        refine hK.out _ _ (⟨(hB6.cell (World.block_lt_of_cell? _ _ hHeld.1)).trans hHeld.1, (hB6.cell (World.block_lt_of_cell? _ _ hHeld.2.1)).trans hHeld.2.1, (hB6.cell (World.block_lt_of_cell? _ _ hHeld.2.2.1)).trans hHeld.2.2.1, (hB6.cell (World.block_lt_of_cell? _ _ hHeld.2.2.2.1)).trans hHeld.2.2.2.1, (hB6.cell (World.block_lt_of_cell? _ _ hHeld.2.2.2.2.1)).trans hHeld.2.2.2.2.1, (hB6.cell (World.block_lt_of_cell? _ _ hHeld.2.2.2.2.2.1)).trans hHeld.2.2.2.2.2.1, (hB6.cell (World.block_lt_of_cell? _ _ hHeld.2.2.2.2.2.2)).trans hHeld.2.2.2.2.2.2⟩) (fun hHeld => ?_)
        clear hK K
        refine wpAnyH_take (i := 5) (oi := ⟨some 26, _, _, _, _, _⟩) (v := .pointer (some ⟨ig, ioff + i * 4, none⟩)) rfl (by kernel_rfl) (by kernel_rfl) (by kernel_rfl) (fun _ _ _ h => h) (Or.inl ⟨by kernel_rfl, fun w hSw => by go_simp⟩) (by assumption) ?_
        simp only [Act.put, lTA, lC0, lCS]
        refine wpAnyH_take (i := 6) (oi := ⟨some 27, _, _, _, _, _⟩) (v := .agg #[.int .i64 xn, .bool dr, .slice EA ne ecap, .string dat]) rfl (by kernel_rfl) (by kernel_rfl) (by kernel_rfl) (fun _ _ _ h => h) (Or.inl ⟨by kernel_rfl, fun w hSw => by go_simp⟩) (by assumption) ?_
        simp only [Act.put, lTA, lC0, lCS]
        refine wpAnyH_ready (rs := [7]) (by kernel_rfl) (by simp) ?_
        refine AllReadyH.cons rfl (fun K hK => ?_) AllReadyH.nil
        go_simp
        have hA7 := below_alloc w6 (.cells #[.int .i64 0, .bool false, .slice none 0 0, .string ⟨#[]⟩] 56)
        show K _ _
        refine hK.out _ _ (⟨(hA7.cell (World.block_lt_of_cell? _ _ hHeld.1)).trans hHeld.1, (hA7.cell (World.block_lt_of_cell? _ _ hHeld.2.1)).trans hHeld.2.1, (hA7.cell (World.block_lt_of_cell? _ _ hHeld.2.2.1)).trans hHeld.2.2.1, (hA7.cell (World.block_lt_of_cell? _ _ hHeld.2.2.2.1)).trans hHeld.2.2.2.1, (hA7.cell (World.block_lt_of_cell? _ _ hHeld.2.2.2.2.1)).trans hHeld.2.2.2.2.1, (hA7.cell (World.block_lt_of_cell? _ _ hHeld.2.2.2.2.2.1)).trans hHeld.2.2.2.2.2.1, (hA7.cell (World.block_lt_of_cell? _ _ hHeld.2.2.2.2.2.2)).trans hHeld.2.2.2.2.2.2⟩) (fun hHeld => ?_)
        clear hK K
        have hsz6 : w1.heap.size ≤ w6.heap.size := hB6.size
        have hF : Below w1.heap.size w1 (w6.alloc (Obj.cells #[.int .i64 xn, .bool dr, .slice EA ne ecap, .string dat] 56)) := ((below_drew1 w1).trans (show Below w1.heap.size w1.drew w6 from hB6)).alloc hsz6 _
        refine wpAnyH_ready (rs := [8]) (by kernel_rfl) (by simp) ?_
        refine AllReadyH.cons rfl (fun K hK => ?_) AllReadyH.nil
        go_simp
        show K _ _
        refine hK.out _ _ (⟨(hF.cell (World.block_lt_of_cell? _ _ p0)).trans p0, (hF.cell (World.block_lt_of_cell? _ _ p1)).trans p1, (hF.cell (World.block_lt_of_cell? _ _ p2)).trans p2, (hF.cell (World.block_lt_of_cell? _ _ q0)).trans q0, (hF.cell (World.block_lt_of_cell? _ _ q1)).trans q1, (hF.cell (World.block_lt_of_cell? _ _ q2)).trans q2, (hF.cell (World.block_lt_of_cell? _ _ q3)).trans q3⟩) (fun hHeld => ?_)
        clear hK K
        refine wpAnyH_done (by kernel_rfl) ?_ _
        go_wp2_with (fail)
        go_meet
        case rel => exact ⟨w6.heap.size, rfl, hsz6, Blk.new _ _ _, hF⟩
      · go_simp
        have hBd : Below w1.heap.size w1 (w1.alloc (.cells #[.int .i64 0, .bool false, .slice none 0 0, .string ⟨#[]⟩] 56)).drew := (below_alloc w1 _).trans ⟨rfl, rfl, rfl, Nat.le_refl _, fun _ _ => rfl⟩
        show K _ _
        refine hK.out _ _ (⟨(hBd.cell (World.block_lt_of_cell? _ _ p0)).trans p0, (hBd.cell (World.block_lt_of_cell? _ _ p1)).trans p1, (hBd.cell (World.block_lt_of_cell? _ _ p2)).trans p2, (hBd.cell (World.block_lt_of_cell? _ _ q0)).trans q0, (hBd.cell (World.block_lt_of_cell? _ _ q1)).trans q1, (hBd.cell (World.block_lt_of_cell? _ _ q2)).trans q2, (hBd.cell (World.block_lt_of_cell? _ _ q3)).trans q3⟩) (fun hHeld => ?_)
        clear hK K
        refine wpAnyH_ready (rs := [4]) (by kernel_rfl) (by simp) ?_
        refine AllReadyH.cons rfl (fun K hK => ?_) AllReadyH.nil
        go_simp
        refine (HCA.out _ (HF1.out.stm.keep hBd)).mono ?_
        rintro e w6 ⟨rfl, hB6⟩
        show K _ _
        refine hK.out _ _ (⟨(hB6.cell (World.block_lt_of_cell? _ _ hHeld.1)).trans hHeld.1, (hB6.cell (World.block_lt_of_cell? _ _ hHeld.2.1)).trans hHeld.2.1, (hB6.cell (World.block_lt_of_cell? _ _ hHeld.2.2.1)).trans hHeld.2.2.1, (hB6.cell (World.block_lt_of_cell? _ _ hHeld.2.2.2.1)).trans hHeld.2.2.2.1, (hB6.cell (World.block_lt_of_cell? _ _ hHeld.2.2.2.2.1)).trans hHeld.2.2.2.2.1, (hB6.cell (World.block_lt_of_cell? _ _ hHeld.2.2.2.2.2.1)).trans hHeld.2.2.2.2.2.1, (hB6.cell (World.block_lt_of_cell? _ _ hHeld.2.2.2.2.2.2)).trans hHeld.2.2.2.2.2.2⟩) (fun hHeld => ?_)
        clear hK K
        have hlt : w1.heap.size < (w1.alloc (.cells #[.int .i64 0, .bool false, .slice none 0 0, .string ⟨#[]⟩] 56)).drew.heap.size := (Blk.new w1 56 #[.int .i64 0, .bool false, .slice none 0 0, .string ⟨#[]⟩]).lt
        have hG : Blk w6 w1.heap.size 56 #[.int .i64 0, .bool false, .slice none 0 0, .string ⟨#[]⟩] := Blk.of_heap (hB6.block _ hlt) (show Blk (w1.alloc (.cells #[.int .i64 0, .bool false, .slice none 0 0, .string ⟨#[]⟩] 56)).drew w1.heap.size 56 _ from Blk.new w1 _ _)
        have hF0 : Below w1.heap.size w1 w6 := hBd.trans (hB6.mono (Nat.le_of_lt hlt))
        refine wpAnyH_take (i := 5) (oi := ⟨some 26, _, _, _, _, _⟩) (v := .pointer (some ⟨ig, ioff + i * 4, none⟩)) rfl (by kernel_rfl) (by kernel_rfl) (by kernel_rfl) (fun _ _ _ h => h) (Or.inl ⟨by kernel_rfl, fun w hSw => by go_simp⟩) (by assumption) ?_
        simp only [Act.put, lTA, lC0, lCS]
        refine wpAnyH_take (i := 6) (oi := ⟨some 27, _, _, _, _, _⟩) (v := .agg #[.int .i64 xn, .bool dr, .slice EA ne ecap, .string dat]) rfl (by kernel_rfl) (by kernel_rfl) (by kernel_rfl) (fun _ _ _ h => h) (Or.inl ⟨by kernel_rfl, fun w hSw => by go_simp⟩) (by assumption) ?_
        simp only [Act.put, lTA, lC0, lCS]
        have g0 : w6.cell? ⟨w1.heap.size, 0, none⟩ = some (.int .i64 0) := hG.cell 0
        have f0 := hG.frozen 0
        have g1 : w6.cell? ⟨w1.heap.size, 1, none⟩ = some (.bool false) := hG.cell 1
        have f1 := hG.frozen 1
        have g2 : w6.cell? ⟨w1.heap.size, 2, none⟩ = some (.slice none 0 0) := hG.cell 2
        have f2 := hG.frozen 2
        have g3 : w6.cell? ⟨w1.heap.size, 3, none⟩ = some (.string ⟨#[]⟩) := hG.cell 3
        have f3 := hG.frozen 3
        have hF := (((hF0.setCell (p := ⟨w1.heap.size, 0, none⟩) (Nat.le_refl _) (.int .i64 xn)).setCell (p := ⟨w1.heap.size, 1, none⟩) (Nat.le_refl _) (.bool dr)).setCell (p := ⟨w1.heap.size, 2, none⟩) (Nat.le_refl _) (.slice EA ne ecap)).setCell (p := ⟨w1.heap.size, 3, none⟩) (Nat.le_refl _) (.string dat)
        have hN := (((hG.set_ 0 (.int .i64 xn)).set_ 1 (.bool dr)).set_ 2 (.slice EA ne ecap)).set_ 3 (.string dat)
        refine wpAnyH_ready (rs := [8]) (by kernel_rfl) (by simp) ?_
        refine AllReadyH.cons rfl (fun K hK => ?_) AllReadyH.nil
        go_simp
        show K _ _
        refine hK.out _ _ (⟨(hF.cell (World.block_lt_of_cell? _ _ p0)).trans p0, (hF.cell (World.block_lt_of_cell? _ _ p1)).trans p1, (hF.cell (World.block_lt_of_cell? _ _ p2)).trans p2, (hF.cell (World.block_lt_of_cell? _ _ q0)).trans q0, (hF.cell (World.block_lt_of_cell? _ _ q1)).trans q1, (hF.cell (World.block_lt_of_cell? _ _ q2)).trans q2, (hF.cell (World.block_lt_of_cell? _ _ q3)).trans q3⟩) (fun hHeld => ?_)
        clear hK K
        refine wpAnyH_done (by kernel_rfl) ?_ _
        go_wp2_with (fail)
        go_meet
        case rel => exact ⟨w1.heap.size, rfl, Nat.le_refl _, hN, hF⟩
    case rest =>
      obtain ⟨b, rfl, -, hbk, hbc⟩ := hcut
      have HX := Lib.hid hbk
      have HF2 := Lib.hid (HF1.out.below hbc)
      have HB2 := Lib.hid (HB1.out.trans (hbc.mono hpw1))
      have HE2 := Lib.hid (HEW.out.keep hbc)
      obtain ⟨w2, hw2⟩ : ∃ x : World, x = wc := ⟨_, rfl⟩
      subst hw2
      clear p0 p1 p2 q0 q1 q2 q3 hbk hbc HF1 HB1 hpw1 HCA HEW
      have hpw2 : p ≤ w2.heap.size := Nat.le_of_lt HF2.out.pB.lt
      have k0 : w2.cell? ⟨cb, 0, none⟩ = some (.int .i64 c.kind) := HF2.out.cB.cell 0
      have x1 : w2.cell? ⟨b, 1, none⟩ = some (.bool dr) := HX.out.cell 1
      have x2 : w2.cell? ⟨b, 2, none⟩ = some (.slice EA ne ecap) := HX.out.cell 2
      have x3 : w2.cell? ⟨b, 3, none⟩ = some (.string dat) := HX.out.cell 3
      by_cases h12 : c.kind = 12
      · have e12 : (c.kind == 12) = true := by rw [h12]; rfl
        clear h12
        rcases bool_tf dr with rfl | rfl
        · obtain ⟨q, hq_⟩ : ∃ q, q = w2.heap.size := ⟨_, rfl⟩
          have HQ := Lib.hid hq_
          clear hq_
          go_wp2_with (fail)
          clear k0 x1 x2 x3
          go_loopw [8, 9] (fun v i' wr => ∃ (k : Nat) (L : List ByteArray), i' = .int .i64 k ∧ k ≤ ne ∧ L.length = k ∧ (∃ A cap, v = .slice A L.length cap) ∧ wr.ownsRow q 9 1 v L.length (L.flatMap encS) ∧ Below q w2 wr) (fun _ i' _ => ne - (intOf i').toNat)
          case atStart => exact ⟨0, [], rfl, by omega, rfl, ⟨_, _, rfl⟩, World.ownsRow_nil _ _ _ _, Below.refl _ _⟩
          case round =>
            obtain ⟨k, L, rfl, hk, hlk, ⟨VA, vc, rfl⟩, hown, hb⟩ := hrel
            have HLK := Lib.hid hlk
            have HO := Lib.hid hown
            have HB := Lib.hid hb
            have hbw : Below w2.heap.size w2 wr := by rw [← HQ.out]; exact hb
            have HXr := Lib.hid (HX.out.below hbw)
            have HEr := Lib.hid (HE2.out.keep hbw)
            have HFr := Lib.hid (HF2.out.below hbw)
            have HBr := Lib.hid (HB2.out.trans (hbw.mono hpw2))
            have x2 : wr.cell? ⟨b, 2, none⟩ = some (.slice EA ne ecap) := HXr.out.cell 2
            have hqs : q ≤ wr.heap.size := by have := hbw.size; have := HQ.out; omega
            clear hlk hown hb hbw
            by_cases hq : k < ne
            · have hq1 : (k : Int) < (ne : Int) := by omega
              obtain ⟨-, hecap, eg, eoff, rfl, hecell⟩ := HEr.out.at_ hq
              have e0 : wr.cell? ⟨eg, eoff + k * 2, none⟩ = some (.string (S.enm i k)) := hecell 0 (by omega)
              clear hecell
              generalize S.enm i k = s1 at *
              have HNW := Lib.hid (Blk.new wr 9 #[.string s1])
              have HOW := Lib.hid (own_below HO.out (below_alloc wr (Obj.cells #[.string s1] 9)))
              have HBW := Lib.hid (HB.out.trans ((below_alloc wr (Obj.cells #[.string s1] 9)).mono hqs))
              have HQW := Lib.hid (show q ≤ (wr.alloc (Obj.cells #[.string s1] 9)).heap.size from Nat.le_trans hqs (below_alloc wr _).size)
              go_wp2_with (at_builtin; refine wpList_app (enc := encS) _ rfl (.tmp 49) (.tmp 56) 45 9 rfl i0_ _ 16 Try.underlying45 hi hz0 hz1 hz2 rfl (by decide) q _ L rfl HOW.out (.slice (some ⟨wr.heap.size, 0, none⟩) 1 1) rfl [s1] (C := strC [s1]) (RowAt.blk HNW.out (Nat.le_refl _) (fun a b ha hb => by (obtain rfl : a = 0 := (by simpa using ha)); (obtain rfl : b = 0 := (by omega)); rfl)) (cl_str _) encS_len (fun x _ => encS_one x) (by have := HLK.out; simp only [List.length_cons, List.length_nil] at this ⊢; omega) (by decide) HQW.out ?_; intro A6 n6 c6 w6 hn6 hown6 hgrow6; have HN6 := Lib.hid hn6; have HO6 := Lib.hid hown6; have HG6 := Lib.hid hgrow6; clear hn6 hown6 hgrow6)
              go_roundw
              case rel => exact ⟨k + 1, L ++ [s1], by go_num, by omega, by rw [List.length_append, HLK.out]; rfl, ⟨A6, c6, by rw [HN6.out]⟩, HO6.out, HBW.out.trans ⟨HG6.out.os, HG6.out.tape, HG6.out.output, HG6.out.size, fun k' hk' => HG6.out.block k' (by have := HQW.out; omega) (fun e => by have := (HOW.out.lt k' e.symm).1; omega)⟩⟩
              case measure =>
                simp only [intOf]
                omega
            · obtain rfl : k = ne := by omega
              have r0 : wr.cell? ⟨rb, 0, none⟩ = some (.int .i64 0) := HFr.out.rB.cell 0
              have l0 := HFr.out.rB.frozen 0
              have r1 : wr.cell? ⟨rb, 1, none⟩ = some (.int .i64 0) := HFr.out.rB.cell 1
              have l1 := HFr.out.rB.frozen 1
              have r2 : wr.cell? ⟨rb, 2, none⟩ = some (.int .i64 0) := HFr.out.rB.cell 2
              have l2 := HFr.out.rB.frozen 2
              have r3 : wr.cell? ⟨rb, 3, none⟩ = some (.bool false) := HFr.out.rB.cell 3
              have l3 := HFr.out.rB.frozen 3
              have r4 : wr.cell? ⟨rb, 4, none⟩ = some (.string ⟨#[]⟩) := HFr.out.rB.cell 4
              have l4 := HFr.out.rB.frozen 4
              have r5 : wr.cell? ⟨rb, 5, none⟩ = some (.slice none 0 0) := HFr.out.rB.cell 5
              have l5 := HFr.out.rB.frozen 5
              go_wp2_with (fail)
              refine bodyPost_ret (v := .agg #[.int .i64 0, .int .i64 0, .int .i64 0, .bool false, .string ⟨#[]⟩, .slice VA L.length vc]) ?_ rfl ⟨⟨_, _, _, _, _, _, _, _, rfl⟩, by rw [← HP.out]; exact below6 (HBr.out) HRL.out _ _ _ _ _ _⟩
              simp [results, Try.results99, go_sem, r0, r1, r2, r3, r4, r5]
        · go_wp2_with (go_at_call 94; refine (fail2 _ _).mono ?_; rintro e wz ⟨rfl, hBz⟩; have HZ := Lib.hid (HF2.out.below hBz); have r0 : wz.cell? ⟨rb, 0, none⟩ = some (.int .i64 0) := HZ.out.rB.cell 0; have l0 := HZ.out.rB.frozen 0; have r1 : wz.cell? ⟨rb, 1, none⟩ = some (.int .i64 0) := HZ.out.rB.cell 1; have l1 := HZ.out.rB.frozen 1; have r2 : wz.cell? ⟨rb, 2, none⟩ = some (.int .i64 0) := HZ.out.rB.cell 2; have l2 := HZ.out.rB.frozen 2; have r3 : wz.cell? ⟨rb, 3, none⟩ = some (.bool false) := HZ.out.rB.cell 3; have l3 := HZ.out.rB.frozen 3; have r4 : wz.cell? ⟨rb, 4, none⟩ = some (.string ⟨#[]⟩) := HZ.out.rB.cell 4; have l4 := HZ.out.rB.frozen 4; have r5 : wz.cell? ⟨rb, 5, none⟩ = some (.slice none 0 0) := HZ.out.rB.cell 5; have l5 := HZ.out.rB.frozen 5; have HBZ := Lib.hid hBz; clear hBz)
          refine bodyPost_ret (v := .agg #[.int .i64 7, .int .i64 0, .int .i64 0, .bool false, .string ⟨#[]⟩, .slice none 0 0]) ?_ rfl ⟨⟨_, _, _, _, _, _, _, _, rfl⟩, by rw [← HP.out]; exact below6 (HB2.out.trans (HBZ.out.mono hpw2)) HRL.out _ _ _ _ _ _⟩
          simp [results, Try.results99, go_sem, r0, r1, r2, r3, r4, r5]
      · have e12 : (c.kind == 12) = false := by rw [beq_eq_false_iff_ne]; exact h12
        by_cases h13 : c.kind = 13
        · have e13 : (c.kind == 13) = true := by rw [h13]; rfl
          clear h13
          have r0 : w2.cell? ⟨rb, 0, none⟩ = some (.int .i64 0) := HF2.out.rB.cell 0
          have l0 := HF2.out.rB.frozen 0
          have r1 : w2.cell? ⟨rb, 1, none⟩ = some (.int .i64 0) := HF2.out.rB.cell 1
          have l1 := HF2.out.rB.frozen 1
          have r2 : w2.cell? ⟨rb, 2, none⟩ = some (.int .i64 0) := HF2.out.rB.cell 2
          have l2 := HF2.out.rB.frozen 2
          have r3 : w2.cell? ⟨rb, 3, none⟩ = some (.bool false) := HF2.out.rB.cell 3
          have l3 := HF2.out.rB.frozen 3
          have r4 : w2.cell? ⟨rb, 4, none⟩ = some (.string ⟨#[]⟩) := HF2.out.rB.cell 4
          have l4 := HF2.out.rB.frozen 4
          have r5 : w2.cell? ⟨rb, 5, none⟩ = some (.slice none 0 0) := HF2.out.rB.cell 5
          have l5 := HF2.out.rB.frozen 5
          go_wp2_with (fail)
          refine bodyPost_ret (v := .agg #[.int .i64 0, .int .i64 0, .int .i64 dat.size, .bool dr, .string ⟨#[]⟩, .slice none 0 0]) ?_ rfl ⟨⟨_, _, _, _, _, _, _, _, rfl⟩, by rw [← HP.out]; exact below6 (HB2.out) HRL.out _ _ _ _ _ _⟩
          simp [results, Try.results99, go_sem, r0, r1, r2, r3, r4, r5]
        · have e13 : (c.kind == 13) = false := by rw [beq_eq_false_iff_ne]; exact h13
          rcases bool_tf dr with rfl | rfl
          · go_wp2_with (go_at_call 94; refine (fail2 _ _).mono ?_; rintro e wz ⟨rfl, hBz⟩; have HZ := Lib.hid (HF2.out.below hBz); have r0 : wz.cell? ⟨rb, 0, none⟩ = some (.int .i64 0) := HZ.out.rB.cell 0; have l0 := HZ.out.rB.frozen 0; have r1 : wz.cell? ⟨rb, 1, none⟩ = some (.int .i64 0) := HZ.out.rB.cell 1; have l1 := HZ.out.rB.frozen 1; have r2 : wz.cell? ⟨rb, 2, none⟩ = some (.int .i64 0) := HZ.out.rB.cell 2; have l2 := HZ.out.rB.frozen 2; have r3 : wz.cell? ⟨rb, 3, none⟩ = some (.bool false) := HZ.out.rB.cell 3; have l3 := HZ.out.rB.frozen 3; have r4 : wz.cell? ⟨rb, 4, none⟩ = some (.string ⟨#[]⟩) := HZ.out.rB.cell 4; have l4 := HZ.out.rB.frozen 4; have r5 : wz.cell? ⟨rb, 5, none⟩ = some (.slice none 0 0) := HZ.out.rB.cell 5; have l5 := HZ.out.rB.frozen 5; have HBZ := Lib.hid hBz; clear hBz)
            refine bodyPost_ret (v := .agg #[.int .i64 8, .int .i64 0, .int .i64 0, .bool false, .string ⟨#[]⟩, .slice none 0 0]) ?_ rfl ⟨⟨_, _, _, _, _, _, _, _, rfl⟩, by rw [← HP.out]; exact below6 (HB2.out.trans (HBZ.out.mono hpw2)) HRL.out _ _ _ _ _ _⟩
            simp [results, Try.results99, go_sem, r0, r1, r2, r3, r4, r5]
          · have HLC := Lib.hid (Links_calls HF2.out.stm (by rw [HNN.out]; omega) HI.out.small.en num)
            obtain ⟨lc, hlc⟩ : ∃ x, (links S).count num = x := ⟨_, rfl⟩
            rw [hlc] at HLC
            clear hlc
            have p0 : w2.cell? ⟨p, 0, none⟩ = some (.slice (some ⟨ig, ioff, none⟩) n cap) := HF2.out.pB.cell 0
            have p1 : w2.cell? ⟨p, 1, none⟩ = some (.slice OA no ocap) := HF2.out.pB.cell 1
            have p2 : w2.cell? ⟨p, 2, none⟩ = some (.slice MA nm_ mcap) := HF2.out.pB.cell 2
            go_wp2_with (go_at_call 48; refine HLC.out.mono ?_; rintro e wz ⟨rfl, hBz⟩; have HZ := Lib.hid (HF2.out.below hBz); have r0 : wz.cell? ⟨rb, 0, none⟩ = some (.int .i64 0) := HZ.out.rB.cell 0; have l0 := HZ.out.rB.frozen 0; have r1 : wz.cell? ⟨rb, 1, none⟩ = some (.int .i64 0) := HZ.out.rB.cell 1; have l1 := HZ.out.rB.frozen 1; have r2 : wz.cell? ⟨rb, 2, none⟩ = some (.int .i64 0) := HZ.out.rB.cell 2; have l2 := HZ.out.rB.frozen 2; have r3 : wz.cell? ⟨rb, 3, none⟩ = some (.bool false) := HZ.out.rB.cell 3; have l3 := HZ.out.rB.frozen 3; have r4 : wz.cell? ⟨rb, 4, none⟩ = some (.string ⟨#[]⟩) := HZ.out.rB.cell 4; have l4 := HZ.out.rB.frozen 4; have r5 : wz.cell? ⟨rb, 5, none⟩ = some (.slice none 0 0) := HZ.out.rB.cell 5; have l5 := HZ.out.rB.frozen 5; have HBZ := Lib.hid hBz; clear hBz)
            refine bodyPost_ret (v := .agg #[.int .i64 0, .int .i64 0, .int .i64 lc, .bool false, .string ⟨#[]⟩, .slice none 0 0]) ?_ rfl ⟨⟨_, _, _, _, _, _, _, _, rfl⟩, by rw [← HP.out]; exact below6 (HB2.out.trans (HBZ.out.mono hpw2)) HRL.out _ _ _ _ _ _⟩
            simp [results, Try.results99, go_sem, r0, r1, r2, r3, r4, r5]
  · have hc2 : (code != 0) = true := by simpa using hc0
    go_wp2_with (go_at_call 94; refine (fail2 _ _).mono ?_; rintro e wz ⟨rfl, hBz⟩; have HZ := Lib.hid (HF1.out.below hBz); have r0 : wz.cell? ⟨rb, 0, none⟩ = some (.int .i64 0) := HZ.out.rB.cell 0; have l0 := HZ.out.rB.frozen 0; have r1 : wz.cell? ⟨rb, 1, none⟩ = some (.int .i64 0) := HZ.out.rB.cell 1; have l1 := HZ.out.rB.frozen 1; have r2 : wz.cell? ⟨rb, 2, none⟩ = some (.int .i64 0) := HZ.out.rB.cell 2; have l2 := HZ.out.rB.frozen 2; have r3 : wz.cell? ⟨rb, 3, none⟩ = some (.bool false) := HZ.out.rB.cell 3; have l3 := HZ.out.rB.frozen 3; have r4 : wz.cell? ⟨rb, 4, none⟩ = some (.string ⟨#[]⟩) := HZ.out.rB.cell 4; have l4 := HZ.out.rB.frozen 4; have r5 : wz.cell? ⟨rb, 5, none⟩ = some (.slice none 0 0) := HZ.out.rB.cell 5; have l5 := HZ.out.rB.frozen 5; have HBZ := Lib.hid hBz; clear hBz)
    refine bodyPost_ret (v := .agg #[.int .i64 code, .int .i64 0, .int .i64 0, .bool false, .string ⟨#[]⟩, .slice none 0 0]) ?_ rfl ⟨⟨_, _, _, _, _, _, _, _, rfl⟩, by rw [← HP.out]; exact below6 (HB1.out.trans (HBZ.out.mono hpw1)) HRL.out _ _ _ _ _ _⟩
    simp [results, Try.results99, go_sem, r0, r1, r2, r3, r4, r5]
end Go.Proofs.Ytenlffhoinialaa
