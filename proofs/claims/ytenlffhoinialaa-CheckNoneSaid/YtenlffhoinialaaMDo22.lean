/- The document's within. (Printed in part by genact13.py.) -/
import Derived.Test.YtenlffhoinialaaMDo21
import Derived.Test.YtenlffhoinialaaMNPb
namespace Go.Proofs.Ytenlffhoinialaa
open Go.RowKit
set_option maxHeartbeats 2000000
attribute [local go_sem ↓] Go.wp_at_zero Go.wp_at_succ
/-- What within answers: where it says no, the directory is not below. -/
def WithR (S : St) (top dir : Int) (e : Ending) : Prop := ∃ b : Bool, e = .returned (.bool b) ∧ (b = false → ¬ From S top dir)
set_option maxRecDepth 1000000 in
theorem within_calls {S : St} (hI : Inv S) {dir : Int} {iv ov mv : Value} {ev : Nat → Value} (hdd : ∀ x ∈ S.inodes, x.num = dir → x.dir = true) : ∀ (f : Nat) (top : Int) (i : Nat) (l : List Int), HasAt S top i → S.dir i = true → Chain S (top :: l) → S.inodes.length ≤ f + l.length → ∀ w : World, StM w iv ov mv ev S →
    Calls Try.prog 139 #[.agg #[iv, ov, mv], .int .i64 dir, .int .i64 top] w fun e w' => WithR S top dir e ∧ Below w.heap.size w w' := by
  intro f
  induction f with
  | zero =>
    intro top i l _ _ hc hf
    have := hI.chain_len hc
    simp at this
    omega
  | succ f ih =>
    intro top i l hha hdir hc hf w hS
    obtain ⟨A, cap, rfl⟩ := hS.ino.form
    obtain ⟨OA, ocap, rfl⟩ := hS.opn.form
    obtain ⟨MA, mcap, rfl⟩ := hS.mad.form
    have hni := hI.ni
    have HI := Lib.hid hI
    have HS := Lib.hid hS
    have HHA := Lib.hid hha
    have HDI := Lib.hid hdir
    have HDD := Lib.hid hdd
    have hil := hha.1
    have hen : S.ne i ≤ 32 := hI.en hha.mem.1
    have HENA := Lib.hid (fun k (hk : k < S.ne i) => hI.en_at hil hk)
    have HCA0 := Lib.hid (fun x W hW => At_calls (S := S) (w := W) (iv := .slice A S.inodes.length cap) (ov := .slice OA S.opens.length ocap) (mv := .slice MA S.made.length mcap) (ev := ev) hW (by omega) x)
    have HIH := Lib.hid (fun (y : Int) (j : Nat) (hj : HasAt S y j) (hjd : S.dir j = true) (he : Edge S top y) W hW => ih y j (top :: l) hj hjd (.step hc he (by have := hI.chain_new hc hj.mem.1 hjd (by rw [hj.mem.2]; exact he); rwa [hj.mem.2] at this)) (by simp only [List.length_cons]; omega) W hW)
    obtain ⟨n, hnn⟩ : ∃ n, S.inodes.length = n := ⟨_, rfl⟩
    obtain ⟨no, hno⟩ : ∃ n, S.opens.length = n := ⟨_, rfl⟩
    obtain ⟨nm_, hnm⟩ : ∃ n, S.made.length = n := ⟨_, rfl⟩
    have HNN := Lib.hid hnn
    rw [hno, hnm] at HS HCA0 HIH ⊢
    rw [hnn] at HS hni HCA0 HIH hil ⊢
    have HB0 := Lib.hid (below_alloc w (.cells #[.slice A n cap, .slice OA no ocap, .slice MA nm_ mcap] 26))
    have HP0 := Lib.hid (Blk.new w 26 #[.slice A n cap, .slice OA no ocap, .slice MA nm_ mcap])
    have HSW := Lib.hid (HS.out.keep HB0.out)
    have hda := hha.2.1
    have HCT := Lib.hid (by have := HCA0.out top _ HSW.out; rwa [hda] at this)
    clear hS hI hdd hha hc hf hdir ih hnn hno hnm hda
    by_cases htd : dir = top
    · subst htd
      go_enter Try.func139, Try.ntmps139
      go_wp2_with (fail)
      go_ret
      exact ⟨⟨true, rfl, fun h => by cases h⟩, HB0.out⟩
    · have ht1 : (dir == top) = false := by rw [beq_eq_false_iff_ne]; exact htd
      have HTD := Lib.hid htd
      clear htd
      go_enter Try.func139, Try.ntmps139
      go_upto_region 3 with (fail)
      obtain ⟨p, hp⟩ : ∃ x, x = w.heap.size := ⟨_, rfl⟩
      have HP := Lib.hid hp
      rw [← hp] at HP0 HB0
      rw [← hp]
      clear hp HS
      generalize w.alloc (.cells #[.slice A n cap, .slice OA no ocap, .slice MA nm_ mcap] 26) = w0 at *
      have hpw0 : p ≤ w0.heap.size := Nat.le_of_lt HP0.out.lt
      obtain ⟨-, -, ig, ioff, rfl, hcell⟩ := (show RowAt w0 (.slice A n cap) n 4 (inoC S ev) by have := HSW.out.ino; rwa [HNN.out] at this).at_ hil
      have HQ2 := Lib.hid (show w0.cell? ⟨ig, ioff + i * 4 + 2, none⟩ = some (ev i) from hcell 2 (by omega))
      have HEW := Lib.hid (HSW.out.ent i (by rw [HNN.out]; exact hil))
      obtain ⟨EA, ecap, hev⟩ := HEW.out.form
      rw [hev] at HQ2 HEW
      clear hcell hev
      obtain ⟨ne, hne⟩ : ∃ x, S.ne i = x := ⟨_, rfl⟩
      have HNE := Lib.hid hne
      rw [hne] at HQ2 HEW HENA hen
      clear hne
      have hil1 : (i : Int) < (n : Int) := by omega
      have p0 : w0.cell? ⟨p, 0, none⟩ = some (.slice (some ⟨ig, ioff, none⟩) n cap) := HP0.out.cell 0
      have p1 : w0.cell? ⟨p, 1, none⟩ = some (.slice OA no ocap) := HP0.out.cell 1
      have p2 : w0.cell? ⟨p, 2, none⟩ = some (.slice MA nm_ mcap) := HP0.out.cell 2
      go_upto_region 4 with (go_at_call 83; refine HCT.out.mono ?_; rintro e w1 ⟨rfl, hB1⟩; have HB1 := Lib.hid hB1; clear hB1)
      clear p0 p1 p2 HCT
      go_wp2_with (fail)
      go_loopw [8] (fun i' wr => ∃ k : Nat, i' = .int .i64 k ∧ k ≤ ne ∧ (∀ j, j < k → ¬ From S (S.enu i j) dir) ∧ Below w0.heap.size w0 wr) (fun i' _ => ne - (intOf i').toNat)
      case atStart => exact ⟨0, rfl, by omega, fun j hj => absurd hj (by omega), HB1.out⟩
      case round =>
        obtain ⟨k, rfl, hk, hnf, hb⟩ := hrel
        have HNF := Lib.hid hnf
        have HBr := Lib.hid hb
        have HPr := Lib.hid (HP0.out.below hb)
        have HSr := Lib.hid (HSW.out.keep hb)
        have HBt := Lib.hid (HB0.out.trans (hb.mono hpw0))
        have hq2 := HQ2.out
        have q2 : wr.cell? ⟨ig, ioff + i * 4 + 2, none⟩ = some (.slice EA ne ecap) := (hb.cell (World.block_lt_of_cell? w0 _ hq2)).trans hq2
        have HEr := Lib.hid (HEW.out.keep hb)
        have p0 : wr.cell? ⟨p, 0, none⟩ = some (.slice (some ⟨ig, ioff, none⟩) n cap) := HPr.out.cell 0
        have p1 : wr.cell? ⟨p, 1, none⟩ = some (.slice OA no ocap) := HPr.out.cell 1
        have p2 : wr.cell? ⟨p, 2, none⟩ = some (.slice MA nm_ mcap) := HPr.out.cell 2
        clear hnf hb hq2
        by_cases hq : k < ne
        · have hq1 : (k : Int) < (ne : Int) := by omega
          obtain ⟨-, hecap, eg, eoff, rfl, hecell⟩ := HEr.out.at_ hq
          have e1 : wr.cell? ⟨eg, eoff + k * 2 + 1, none⟩ = some (.int .i64 (S.enu i k)) := hecell 1 (by omega)
          obtain ⟨g0, g1, j, hj, g2, g3⟩ := HENA.out k hq
          have hjl : j < n := by rwa [HNN.out] at hj
          obtain ⟨-, -, ig', ioff', e', hcell⟩ := (show RowAt wr (.slice (some ⟨ig, ioff, none⟩) n cap) n 4 (inoC S ev) by have := HSr.out.ino; rwa [HNN.out] at this).at_ hjl
          injection e' with e'
          injection e' with e1' e2'
          subst e1' e2'
          have z1 : wr.cell? ⟨ig, ioff + j * 4 + 1, none⟩ = some (.bool (S.dir j)) := hcell 1 (by omega)
          have hnn := HNN.out
          have HHJ := Lib.hid (show HasAt S (S.enu i k) j from ⟨hj, g2, g3, by have := HI.out.firstIx_at hj; rwa [g3] at this⟩)
          have HED := Lib.hid (show Edge S top (S.enu i k) from ⟨_, HHA.out.mem.1, HHA.out.mem.2, HDI.out, _, getD_mem (d := (ByteArray.empty, 0)) (show k < (S.ino i).ents.length by have := HNE.out; unfold St.ne at this; omega), rfl⟩)
          have HCA := Lib.hid (fun W hW => by have := HCA0.out (S.enu i k) W hW; rwa [g2] at this)
          have hjl1 : (j : Int) < (n : Int) := by omega
          have hjl2 : (0 : Int) ≤ (j : Int) := by omega
          have ej : IntKind.i64.wrap (j : Int) = (j : Int) := IntWalk.i64_in _ (by omega)
          obtain ⟨y, hy⟩ : ∃ x, S.enu i k = x := ⟨_, rfl⟩
          have HY := Lib.hid hy
          obtain ⟨dv, hdv⟩ : ∃ x, S.dir j = x := ⟨_, rfl⟩
          have HDV := Lib.hid hdv
          rw [hy] at e1 HHJ HED HCA
          rw [hdv] at z1
          clear hecell hcell g0 g1 g2 g3 hj hy hdv hnn
          have HNX := Lib.hid (show ¬ From S y dir → ∀ j', j' < k + 1 → ¬ From S (S.enu i j') dir from fun h j' hj' => by
            by_cases q : j' = k
            · subst q; rw [HY.out]; exact h
            · exact HNF.out j' (by omega))
          go_upto_region 8 with (fail)
          obtain ⟨wo, hwo⟩ : ∃ x : World, x = wr := ⟨_, rfl⟩
          subst hwo
          clear e1 q2
          go_cut [50] (fun s wx => ∃ b, s = .bool b ∧ (b = false → ¬ From S y dir) ∧ Below wo.heap.size wo wx)
          case first =>
            rcases bool_tf dv with rfl | rfl
            · have HWI := Lib.hid (fun W hW => HIH.out y j HHJ.out HDV.out HED.out W hW)
              clear HIH HNX HNF HENA
              refine wp_region_held_drew (S := fun w' => (w'.cell? ⟨p, 0, none⟩ = some (.slice (some ⟨ig, ioff, none⟩) n cap) ∧ w'.cell? ⟨p, 1, none⟩ = some (.slice OA no ocap) ∧ w'.cell? ⟨p, 2, none⟩ = some (.slice MA nm_ mcap) ∧ w'.cell? ⟨ig, ioff + j * 4 + 1, none⟩ = some (.bool true))) (by kernel_rfl) (⟨p0, p1, p2, z1⟩) (fun hHeld => ?_)
              refine wpAnyH_take (i := 0) (oi := ⟨some 37, _, _, _, _, _⟩) (v := .pointer (some ⟨p, 0, none⟩)) rfl (by kernel_rfl) (by kernel_rfl) (by kernel_rfl) (fun _ _ _ h => h) (Or.inl ⟨by kernel_rfl, fun w hSw => by go_simp⟩) (by assumption) ?_
              simp only [Act.put, lTA, lC0, lCS]
              refine wpAnyH_take (i := 1) (oi := ⟨some 38, _, _, _, _, _⟩) (v := .slice (some ⟨ig, ioff, none⟩) n cap) rfl (by kernel_rfl) (by kernel_rfl) (by kernel_rfl) (fun _ _ _ h => h) (Or.inl ⟨by kernel_rfl, fun w hSw => by go_simp⟩) (by assumption) ?_
              simp only [Act.put, lTA, lC0, lCS]
              refine wpAnyH_take (i := 2) (oi := ⟨some 39, _, _, _, _, _⟩) (v := .agg #[.slice (some ⟨ig, ioff, none⟩) n cap, .slice OA no ocap, .slice MA nm_ mcap]) rfl (by kernel_rfl) (by kernel_rfl) (by kernel_rfl) (fun _ _ _ h => h) (Or.inl ⟨by kernel_rfl, fun w hSw => by go_simp⟩) (by assumption) ?_
              simp only [Act.put, lTA, lC0, lCS]
              refine wpAnyH_take (i := 3) (oi := ⟨some 40, _, _, _, _, _⟩) (v := .int .i64 y) rfl (by kernel_rfl) (by kernel_rfl) (by kernel_rfl) (fun _ _ _ h => h) (Or.inl ⟨by kernel_rfl, fun w hSw => by go_simp⟩) (by assumption) ?_
              simp only [Act.put, lTA, lC0, lCS]
              refine wpAnyH_ready (rs := [4]) (by kernel_rfl) (by simp) ?_
              refine AllReadyH.cons rfl (fun K hK => ?_) AllReadyH.nil
              go_simp
              refine (HCA.out _ (HSr.out.keep (below_drew1 wo))).mono ?_
              rintro e w5 ⟨rfl, hB5⟩
              show K _ _
              refine hK.out _ _ (⟨(hB5.cell (World.block_lt_of_cell? _ _ hHeld.1)).trans hHeld.1, (hB5.cell (World.block_lt_of_cell? _ _ hHeld.2.1)).trans hHeld.2.1, (hB5.cell (World.block_lt_of_cell? _ _ hHeld.2.2.1)).trans hHeld.2.2.1, (hB5.cell (World.block_lt_of_cell? _ _ hHeld.2.2.2)).trans hHeld.2.2.2⟩) (fun hHeld => ?_)
              clear hK K
              refine wpAnyH_take (i := 5) (oi := ⟨some 42, _, _, _, _, _⟩) (v := .pointer (some ⟨ig, ioff + j * 4, none⟩)) rfl (by kernel_rfl) (by kernel_rfl) (by kernel_rfl) (fun _ _ _ h => h) (Or.inl ⟨by kernel_rfl, fun w hSw => by go_simp⟩) (by assumption) ?_
              simp only [Act.put, lTA, lC0, lCS]
              refine wpAnyH_take (i := 6) (oi := ⟨some 43, _, _, _, _, _⟩) (v := .pointer (some ⟨ig, ioff + j * 4 + 1, none⟩)) rfl (by kernel_rfl) (by kernel_rfl) (by kernel_rfl) (fun _ _ _ h => h) (Or.inl ⟨by kernel_rfl, fun w hSw => by go_simp⟩) (by assumption) ?_
              simp only [Act.put, lTA, lC0, lCS]
              refine wpAnyH_take (i := 7) (oi := ⟨some 44, _, _, _, _, _⟩) (v := .bool true) rfl (by kernel_rfl) (by kernel_rfl) (by kernel_rfl) (fun _ _ _ h => h) (Or.inl ⟨by kernel_rfl, fun w hSw => by go_simp⟩) (by assumption) ?_
              simp only [Act.put, lTA, lC0, lCS]
              refine wpAnyH_take (i := 8) (oi := ⟨some 45, _, _, _, _, _⟩) (v := .bool true) rfl (by kernel_rfl) (by kernel_rfl) (by kernel_rfl) (fun _ _ _ h => h) (Or.inl ⟨by kernel_rfl, fun w hSw => by go_simp⟩) (by assumption) ?_
              simp only [Act.put, lTA, lC0, lCS]
              refine wpAnyH_take (i := 9) (oi := ⟨some 46, _, _, _, _, _⟩) (v := .agg #[.slice (some ⟨ig, ioff, none⟩) n cap, .slice OA no ocap, .slice MA nm_ mcap]) rfl (by kernel_rfl) (by kernel_rfl) (by kernel_rfl) (fun _ _ _ h => h) (Or.inl ⟨by kernel_rfl, fun w hSw => by go_simp⟩) (by assumption) ?_
              simp only [Act.put, lTA, lC0, lCS]
              refine wpAnyH_take (i := 10) (oi := ⟨some 47, _, _, _, _, _⟩) (v := .int .i64 dir) rfl (by kernel_rfl) (by kernel_rfl) (by kernel_rfl) (fun _ _ _ h => h) (Or.inl ⟨by kernel_rfl, fun w hSw => by go_simp⟩) (by assumption) ?_
              simp only [Act.put, lTA, lC0, lCS]
              refine wpAnyH_take (i := 11) (oi := ⟨some 48, _, _, _, _, _⟩) (v := .int .i64 y) rfl (by kernel_rfl) (by kernel_rfl) (by kernel_rfl) (fun _ _ _ h => h) (Or.inl ⟨by kernel_rfl, fun w hSw => by go_simp⟩) (by assumption) ?_
              simp only [Act.put, lTA, lC0, lCS]
              refine wpAnyH_ready (rs := [12]) (by kernel_rfl) (by simp) ?_
              refine AllReadyH.cons rfl (fun K hK => ?_) AllReadyH.nil
              go_simp
              refine (HWI.out _ (HSr.out.keep ((below_drew1 wo).trans hB5))).mono ?_
              rintro e w7 ⟨⟨b, rfl, hbf⟩, hB7⟩
              show K _ _
              refine hK.out _ _ (⟨(hB7.cell (World.block_lt_of_cell? _ _ hHeld.1)).trans hHeld.1, (hB7.cell (World.block_lt_of_cell? _ _ hHeld.2.1)).trans hHeld.2.1, (hB7.cell (World.block_lt_of_cell? _ _ hHeld.2.2.1)).trans hHeld.2.2.1, (hB7.cell (World.block_lt_of_cell? _ _ hHeld.2.2.2)).trans hHeld.2.2.2⟩) (fun hHeld => ?_)
              clear hK K
              refine wpAnyH_take (i := 13) (oi := ⟨some 50, _, _, _, _, _⟩) (v := .bool b) rfl (by kernel_rfl) (by kernel_rfl) (by kernel_rfl) (fun _ _ _ h => h) (Or.inl ⟨by kernel_rfl, fun w hSw => by go_simp⟩) (by assumption) ?_
              simp only [Act.put, lTA, lC0, lCS]
              refine wpAnyH_done (by kernel_rfl) ?_ _
              go_wp2_with (fail)
              go_meet
              case rel => exact ⟨b, rfl, hbf, (below_drew1 wo).trans (hB5.trans (hB7.mono hB5.size))⟩
            · have HFN := Lib.hid (show ¬ From S y dir from fun h => by
                have h1 := HI.out.from_file HHJ.out.mem.1 HDV.out (t := dir) (by rw [HHJ.out.mem.2]; exact h)
                have h2 := HDD.out _ HHJ.out.mem.1 h1.symm
                rw [show (S.ino j).dir = false from HDV.out] at h2
                cases h2)
              clear HIH HNX HNF HENA
              refine wp_region_held_drew (S := fun w' => (w'.cell? ⟨p, 0, none⟩ = some (.slice (some ⟨ig, ioff, none⟩) n cap) ∧ w'.cell? ⟨p, 1, none⟩ = some (.slice OA no ocap) ∧ w'.cell? ⟨p, 2, none⟩ = some (.slice MA nm_ mcap) ∧ w'.cell? ⟨ig, ioff + j * 4 + 1, none⟩ = some (.bool false))) (by kernel_rfl) (⟨p0, p1, p2, z1⟩) (fun hHeld => ?_)
              refine wpAnyH_take (i := 0) (oi := ⟨some 37, _, _, _, _, _⟩) (v := .pointer (some ⟨p, 0, none⟩)) rfl (by kernel_rfl) (by kernel_rfl) (by kernel_rfl) (fun _ _ _ h => h) (Or.inl ⟨by kernel_rfl, fun w hSw => by go_simp⟩) (by assumption) ?_
              simp only [Act.put, lTA, lC0, lCS]
              refine wpAnyH_take (i := 1) (oi := ⟨some 38, _, _, _, _, _⟩) (v := .slice (some ⟨ig, ioff, none⟩) n cap) rfl (by kernel_rfl) (by kernel_rfl) (by kernel_rfl) (fun _ _ _ h => h) (Or.inl ⟨by kernel_rfl, fun w hSw => by go_simp⟩) (by assumption) ?_
              simp only [Act.put, lTA, lC0, lCS]
              refine wpAnyH_take (i := 2) (oi := ⟨some 39, _, _, _, _, _⟩) (v := .agg #[.slice (some ⟨ig, ioff, none⟩) n cap, .slice OA no ocap, .slice MA nm_ mcap]) rfl (by kernel_rfl) (by kernel_rfl) (by kernel_rfl) (fun _ _ _ h => h) (Or.inl ⟨by kernel_rfl, fun w hSw => by go_simp⟩) (by assumption) ?_
              simp only [Act.put, lTA, lC0, lCS]
              refine wpAnyH_take (i := 3) (oi := ⟨some 40, _, _, _, _, _⟩) (v := .int .i64 y) rfl (by kernel_rfl) (by kernel_rfl) (by kernel_rfl) (fun _ _ _ h => h) (Or.inl ⟨by kernel_rfl, fun w hSw => by go_simp⟩) (by assumption) ?_
              simp only [Act.put, lTA, lC0, lCS]
              refine wpAnyH_ready (rs := [4]) (by kernel_rfl) (by simp) ?_
              refine AllReadyH.cons rfl (fun K hK => ?_) AllReadyH.nil
              go_simp
              refine (HCA.out _ (HSr.out.keep (below_drew1 wo))).mono ?_
              rintro e w5 ⟨rfl, hB5⟩
              show K _ _
              refine hK.out _ _ (⟨(hB5.cell (World.block_lt_of_cell? _ _ hHeld.1)).trans hHeld.1, (hB5.cell (World.block_lt_of_cell? _ _ hHeld.2.1)).trans hHeld.2.1, (hB5.cell (World.block_lt_of_cell? _ _ hHeld.2.2.1)).trans hHeld.2.2.1, (hB5.cell (World.block_lt_of_cell? _ _ hHeld.2.2.2)).trans hHeld.2.2.2⟩) (fun hHeld => ?_)
              clear hK K
              refine wpAnyH_take (i := 5) (oi := ⟨some 42, _, _, _, _, _⟩) (v := .pointer (some ⟨ig, ioff + j * 4, none⟩)) rfl (by kernel_rfl) (by kernel_rfl) (by kernel_rfl) (fun _ _ _ h => h) (Or.inl ⟨by kernel_rfl, fun w hSw => by go_simp⟩) (by assumption) ?_
              simp only [Act.put, lTA, lC0, lCS]
              refine wpAnyH_take (i := 6) (oi := ⟨some 43, _, _, _, _, _⟩) (v := .pointer (some ⟨ig, ioff + j * 4 + 1, none⟩)) rfl (by kernel_rfl) (by kernel_rfl) (by kernel_rfl) (fun _ _ _ h => h) (Or.inl ⟨by kernel_rfl, fun w hSw => by go_simp⟩) (by assumption) ?_
              simp only [Act.put, lTA, lC0, lCS]
              refine wpAnyH_take (i := 7) (oi := ⟨some 44, _, _, _, _, _⟩) (v := .bool false) rfl (by kernel_rfl) (by kernel_rfl) (by kernel_rfl) (fun _ _ _ h => h) (Or.inl ⟨by kernel_rfl, fun w hSw => by go_simp⟩) (by assumption) ?_
              simp only [Act.put, lTA, lC0, lCS]
              refine wpAnyH_take (i := 8) (oi := ⟨some 45, _, _, _, _, _⟩) (v := .bool false) rfl (by kernel_rfl) (by kernel_rfl) (by kernel_rfl) (fun _ _ _ h => h) (Or.inl ⟨by kernel_rfl, fun w hSw => by go_simp⟩) (by assumption) ?_
              simp only [Act.put, lTA, lC0, lCS]
              refine wpAnyH_take (i := 9) (oi := ⟨some 46, _, _, _, _, _⟩) (v := undef) rfl (by kernel_rfl) (by kernel_rfl) (by kernel_rfl) (fun _ _ _ h => h) (Or.inr ⟨by kernel_rfl, rfl⟩) (by assumption) ?_
              simp only [Act.put, lTA, lC0, lCS]
              refine wpAnyH_take (i := 10) (oi := ⟨some 47, _, _, _, _, _⟩) (v := undef) rfl (by kernel_rfl) (by kernel_rfl) (by kernel_rfl) (fun _ _ _ h => h) (Or.inr ⟨by kernel_rfl, rfl⟩) (by assumption) ?_
              simp only [Act.put, lTA, lC0, lCS]
              refine wpAnyH_take (i := 11) (oi := ⟨some 48, _, _, _, _, _⟩) (v := undef) rfl (by kernel_rfl) (by kernel_rfl) (by kernel_rfl) (fun _ _ _ h => h) (Or.inr ⟨by kernel_rfl, rfl⟩) (by assumption) ?_
              simp only [Act.put, lTA, lC0, lCS]
              refine wpAnyH_take (i := 12) (oi := ⟨some 49, _, _, _, _, _⟩) (v := undef) rfl (by kernel_rfl) (by kernel_rfl) (by kernel_rfl) (fun _ _ _ h => h) (Or.inr ⟨by kernel_rfl, rfl⟩) (by assumption) ?_
              simp only [Act.put, lTA, lC0, lCS]
              refine wpAnyH_take (i := 13) (oi := ⟨some 50, _, _, _, _, _⟩) (v := .bool false) rfl (by kernel_rfl) (by kernel_rfl) (by kernel_rfl) (fun _ _ _ h => h) (Or.inl ⟨by kernel_rfl, fun w hSw => by go_simp⟩) (by assumption) ?_
              simp only [Act.put, lTA, lC0, lCS]
              refine wpAnyH_done (by kernel_rfl) ?_ _
              go_wp2_with (fail)
              go_meet
              case rel => exact ⟨false, rfl, fun _ => HFN.out, (below_drew1 wo).trans hB5⟩
          case rest =>
            obtain ⟨b, rfl, hbf, hbc⟩ := hcut
            have HBF := Lib.hid hbf
            have HBc := Lib.hid (HBr.out.trans (hbc.mono HBr.out.size))
            have HBd := Lib.hid (HBt.out.trans (hbc.mono (by have := HBt.out.size; have := HPr.out.lt; omega)))
            clear p0 p1 p2 z1 hbc hbf
            rcases bool_tf b with rfl | rfl
            · go_wp2_with (fail)
              go_ret
              exact ⟨⟨true, rfl, fun h => by cases h⟩, by rw [← HP.out]; exact HBd.out⟩
            · have HNX2 := Lib.hid (HNX.out (HBF.out (by first | rfl | trivial)))
              clear HBF HNX
              go_wp2_with (fail)
              go_roundw
              case rel => exact ⟨k + 1, by go_num, by omega, HNX2.out, HBc.out⟩
              case measure =>
                simp only [intOf]
                omega
        · obtain rfl : k = ne := by omega
          have HFN := Lib.hid (show ¬ From S top dir from fun h => by
            rcases h.head with h1 | ⟨y, ⟨x, hx, e1, e2, q, hq, e3⟩, h2⟩
            · exact HTD.out h1
            · have hxi : x = S.ino i := HI.out.ino_inj hx HHA.out.mem.1 (by rw [e1]; exact HHA.out.mem.2.symm)
              subst hxi
              obtain ⟨t, ht, rfl⟩ := List.getElem_of_mem hq
              refine HNF.out t (by have := HNE.out; unfold St.ne at this; omega) ?_
              have : S.enu i t = y := by
                unfold St.enu
                rw [getD_lt ht]; exact e3
              rw [this]; exact h2)
          go_wp2_with (fail)
          go_ret
          exact ⟨⟨false, rfl, fun _ => HFN.out⟩, by rw [← HP.out]; exact HBt.out⟩
end Go.Proofs.Ytenlffhoinialaa
