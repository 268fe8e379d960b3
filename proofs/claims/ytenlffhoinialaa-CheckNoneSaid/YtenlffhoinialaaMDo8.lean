/- The document's file system: May, under the invariant. (Printed in part by genheld.py.) -/
import Derived.Test.YtenlffhoinialaaMDo7
namespace Go.Proofs.Ytenlffhoinialaa
open Go.RowKit
set_option maxHeartbeats 2000000
attribute [local go_sem ↓] Go.wp_at_zero Go.wp_at_succ
set_option maxRecDepth 1000000 in
theorem given_true {w : World} {iv ov mv : Value} {ev : Nat → Value} {S : St} (hS : StM w iv ov mv ev S) (num : Int) (hx : num ≤ 1000000) (hg : Given S.made num) :
    Calls Try.prog 57 #[.agg #[iv, ov, mv], .int .i64 num] w fun e w' => e = .returned (.bool true) ∧ Below w.heap.size w w' := by
  obtain ⟨A, cap, rfl⟩ := hS.mad.form
  obtain ⟨h3, hc, hq⟩ := hg
  have HB := Lib.hid (below_alloc w (.cells #[iv, ov, .slice A S.made.length cap] 26))
  have HI := Lib.hid (hS.mad.keep HB.out)
  have s0 := (Blk.new w 26 #[iv, ov, .slice A S.made.length cap]).cell 2
  have hm : S.mad ((num - 2) % 8).toNat = S.made.getD ((num - 2) % 8).toNat 0 := rfl
  rw [← hm] at hq
  clear hm
  obtain ⟨n, hnn⟩ : ∃ n, S.made.length = n := ⟨_, rfl⟩
  rw [hnn] at HB HI s0 hc ⊢
  clear hnn hS
  have h : ¬ num < 2 := by omega
  obtain ⟨_, hcap, g, off, rfl, hcell⟩ := HI.out.at_ (i := ((num - 2) % 8).toNat) (by omega)
  have q0 : (w.alloc (.cells #[iv, ov, .slice (some ⟨g, off, none⟩) n cap] 26)).cell? ⟨g, off + ((num - 2) % 8).toNat, none⟩ = some (.int .i64 (S.mad ((num - 2) % 8).toNat)) := by have := hcell 0 (by omega); rwa [Nat.mul_one, Nat.add_zero] at this
  clear hcell
  generalize S.mad ((num - 2) % 8).toNat = md at *
  have hc0 : 0 ≤ (num - 2) % 8 := by omega
  go_enter Try.func57, Try.ntmps57
  go_wp2_with (fail)
  go_ret
  refine ⟨?_, HB.out⟩
  simp
set_option maxRecDepth 1000000 in
theorem May_calls {w : World} {iv ov mv : Value} {ev : Nat → Value} {S : St} (hS : StM w iv ov mv ev S) (hI : Inv S) :
    Calls Try.prog 19 #[.agg #[iv, ov, mv]] w fun e w' => SomeB e ∧ Below w.heap.size w w' := by
  obtain ⟨A, cap, rfl⟩ := hS.ino.form
  obtain ⟨OA, ocap, rfl⟩ := hS.opn.form
  obtain ⟨MA, mcap, rfl⟩ := hS.mad.form
  have HI := Lib.hid hI
  have hni := hI.ni
  have hpos := hI.pos
  have hm1 := hI.m1
  have hm8 := hI.m8
  obtain ⟨hr0, hr1⟩ := hI.num0
  have HMB := Lib.hid (fun k (hk : k < S.made.length) => (show 0 ≤ S.mad k ∧ S.mad k ≤ 32 from hI.mb _ (getD_mem hk)))
  have HOC := Lib.hid (fun W hW => ropen_calls (w := W) (iv := .slice A S.inodes.length cap) (ov := .slice OA S.opens.length ocap) (mv := .slice MA S.made.length mcap) (ev := ev) hW hI)
  have HRC := Lib.hid (fun W hW => Reached_calls (w := W) (iv := .slice A S.inodes.length cap) (ov := .slice OA S.opens.length ocap) (mv := .slice MA S.made.length mcap) (ev := ev) hW hI)
  have HS := Lib.hid hS
  have HN1 := Lib.hid (show S.inodes.length = S.inodes.length from rfl)
  have HLC := Lib.hid (fun W hW x => Links_calls (S := S) (w := W) (iv := .slice A S.inodes.length cap) (ov := .slice OA S.opens.length ocap) (mv := .slice MA S.made.length mcap) (ev := ev) hW (by omega) hI.small.en x)
  have HIC := Lib.hid (fun W hW x => IsOpen_calls (S := S) (w := W) (iv := .slice A S.inodes.length cap) (ov := .slice OA S.opens.length ocap) (mv := .slice MA S.made.length mcap) (ev := ev) hW hI.small.no x)
  have HGV0 := Lib.hid (fun W hW x hx hg => given_true (S := S) (w := W) (iv := .slice A S.inodes.length cap) (ov := .slice OA S.opens.length ocap) (mv := .slice MA S.made.length mcap) (ev := ev) hW x hx hg)
  have HEC0 := Lib.hid (fun W hW i (hi : i < S.inodes.length) => rentries_calls (w := W) (iv := .slice A S.inodes.length cap) (ov := .slice OA S.opens.length ocap) (mv := .slice MA S.made.length mcap) (ev := ev) hW hI hi)
  obtain ⟨n, hnn⟩ : ∃ n, S.inodes.length = n := ⟨_, rfl⟩
  obtain ⟨no, hnno⟩ : ∃ n, S.opens.length = n := ⟨_, rfl⟩
  obtain ⟨nm_, hnm⟩ : ∃ n, S.made.length = n := ⟨_, rfl⟩
  have HNN := Lib.hid hnn
  have HNM := Lib.hid hnm
  rw [hnn, hnno, hnm] at HOC HRC HS HLC HIC HGV0 HEC0 ⊢
  rw [hnn] at hni hpos
  rw [hnm] at hm1 hm8 HMB
  clear hS hI hnn hnno hnm HN1
  obtain ⟨-, hcap, ig, ioff, rfl, hcell⟩ := (show RowAt w (.slice A n cap) n 4 (inoC S ev) by have := HS.out.ino; rwa [HNN.out] at this).at_ hpos
  have HB0 := Lib.hid (below_alloc w (.cells #[.slice (some ⟨ig, ioff, none⟩) n cap, .slice OA no ocap, .slice MA nm_ mcap] 26))
  have HP0 := Lib.hid (Blk.new w 26 #[.slice (some ⟨ig, ioff, none⟩) n cap, .slice OA no ocap, .slice MA nm_ mcap])
  have i0 : (w.alloc (.cells #[.slice (some ⟨ig, ioff, none⟩) n cap, .slice OA no ocap, .slice MA nm_ mcap] 26)).cell? ⟨ig, ioff, none⟩ = some (.int .i64 1) := by
    have h := hcell 0 (by omega)
    rw [show inoC S ev 0 0 = .int .i64 (S.num 0) from rfl, hr0, Nat.zero_mul, Nat.add_zero] at h
    exact (HB0.out.cell (World.block_lt_of_cell? w _ h)).trans h
  have i1 : (w.alloc (.cells #[.slice (some ⟨ig, ioff, none⟩) n cap, .slice OA no ocap, .slice MA nm_ mcap] 26)).cell? ⟨ig, ioff + 1, none⟩ = some (.bool true) := by
    have h := hcell 1 (by omega)
    rw [show inoC S ev 0 1 = .bool (S.dir 0) from rfl, hr1, Nat.zero_mul] at h
    exact (HB0.out.cell (World.block_lt_of_cell? w _ h)).trans h
  have HOC1 := Lib.hid (HOC.out _ (HS.out.keep HB0.out))
  have hn1 : ¬ (nm_ : Int) < 1 := by omega
  have hn8 : ¬ (8 : Int) < (nm_ : Int) := by omega
  have hn0 : ¬ (n : Int) < 1 := by omega
  have hn2 : (0 : Int) < (n : Int) := by omega
  clear hcell HOC
  go_enter Try.func19, Try.ntmps19
  go_wp2_with (go_at_call 56; refine HOC1.out.mono ?_; rintro e w1 ⟨⟨b, rfl⟩, hB1⟩; rcases bool_tf b with rfl | rfl)
  · have HB1 := Lib.hid (HB0.out.trans (hB1.mono HB0.out.size))
    have HP1 := Lib.hid (HP0.out.below hB1)
    have s2 : w1.cell? ⟨w.heap.size, 2, none⟩ = some (.slice MA nm_ mcap) := HP1.out.cell 2
    have s0 : w1.cell? ⟨w.heap.size, 0, none⟩ = some (.slice (some ⟨ig, ioff, none⟩) n cap) := HP1.out.cell 0
    have s1 : w1.cell? ⟨w.heap.size, 1, none⟩ = some (.slice OA no ocap) := HP1.out.cell 1
    have HMR := Lib.hid (show RowAt w1 (.slice MA nm_ mcap) nm_ 1 (madC S) by have := (HS.out.keep HB1.out).mad; rwa [HNM.out] at this)
    have HSZ := Lib.hid (below_alloc w (.cells #[.slice (some ⟨ig, ioff, none⟩) n cap, .slice OA no ocap, .slice MA nm_ mcap] 26))
    obtain ⟨p, hp⟩ : ∃ p, p = w.heap.size := ⟨_, rfl⟩
    have HP := Lib.hid hp
    rw [← hp] at HB1 HP1 s0 s1 s2 ⊢
    clear hB1 HB0 HP0 i0 i1 HOC1 HSZ hp
    go_loop [3] (fun i => ∃ k : Nat, i = .int .i64 k ∧ k ≤ nm_) (fun i => nm_ - (intOf i).toNat)
    case atStart => exact ⟨0, rfl, by omega⟩
    case round =>
      obtain ⟨k, rfl, hk⟩ := hrel
      by_cases hq : k < nm_
      · obtain ⟨_, hmcap, mg, moff, rfl, hcell⟩ := HMR.out.at_ hq
        have q0 : w1.cell? ⟨mg, moff + k, none⟩ = some (.int .i64 (S.mad k)) := by have := hcell 0 (by omega); rwa [Nat.mul_one] at this
        have hq1 : (k : Int) < (nm_ : Int) := by omega
        obtain ⟨b0, b1⟩ := HMB.out k hq
        clear hcell
        generalize S.mad k = md at *
        have b2 : ¬ md < 0 := by omega
        have b3 : ¬ 32 < md := by omega
        go_wp2_with (fail)
        go_round
        case rel => exact ⟨k + 1, by go_num, by omega⟩
        case measure =>
          simp only [intOf]
          omega
      · obtain rfl : k = nm_ := by omega
        have hn257 : ¬ (257 : Int) < (n : Int) := by omega
        have HRC1 := Lib.hid (HRC.out w1 (HS.out.keep (by rw [← HP.out]; exact HB1.out)))
        clear HRC HMR HMB
        go_wp2_with (go_at_call 47; refine HRC1.out.mono ?_; rintro e w2 ⟨fg, bs, rfl, hbl, hB2, hbk⟩)
        have HBK := Lib.hid hbk
        have HBL := Lib.hid hbl
        have HB2 := Lib.hid (HB1.out.trans (hB2.mono (Nat.le_of_lt HP1.out.lt)))
        have HP2 := Lib.hid (HP1.out.below hB2)
        clear HRC1 hbk hbl hB2 HB1 HP1 s0 s1 s2
        go_loopw [5] (fun i wr => ∃ k' : Nat, i = .int .i64 k' ∧ k' ≤ n ∧ Below p w wr ∧ Blk wr p 26 #[.slice (some ⟨ig, ioff, none⟩) n cap, .slice OA no ocap, .slice MA k mcap] ∧ Blk wr fg 4 (boolsV bs)) (fun i _ => n - (intOf i).toNat)
        case atStart => exact ⟨0, rfl, by omega, HB2.out, HP2.out, HBK.out⟩
        case round =>
          obtain ⟨k', rfl, hk', hb, hpb, hfb⟩ := hrel
          have HB := Lib.hid hb
          have HPB := Lib.hid hpb
          have HFB := Lib.hid hfb
          have c0 : wr.cell? ⟨p, 0, none⟩ = some (.slice (some ⟨ig, ioff, none⟩) n cap) := hpb.cell 0
          clear hb hpb hfb HB2 HP2 HBK
          by_cases hq : k' < n
          · have HSR := Lib.hid (HS.out.keep (by rw [← HP.out]; exact HB.out))
            have hq1 : (k' : Int) < (n : Int) := by omega
            have hir := (show RowAt wr (.slice (some ⟨ig, ioff, none⟩) n cap) n 4 (inoC S ev) by have := HSR.out.ino; rwa [HNN.out] at this)
            have HIR := Lib.hid hir
            obtain ⟨-, -, ig', ioff', e, hcell⟩ := hir.at_ hq
            injection e with e
            injection e with e1 e2
            subst e1 e2
            have q0 : wr.cell? ⟨ig, ioff + k' * 4, none⟩ = some (.int .i64 (S.num k')) := hcell 0 (by omega)
            have q1 : wr.cell? ⟨ig, ioff + k' * 4 + 1, none⟩ = some (.bool (S.dir k')) := hcell 1 (by omega)
            have q2 : wr.cell? ⟨ig, ioff + k' * 4 + 2, none⟩ = some (ev k') := hcell 2 (by omega)
            have q3 : wr.cell? ⟨ig, ioff + k' * 4 + 3, none⟩ = some (.string (S.dat k')) := hcell 3 (by omega)
            have hkl : k' < S.inodes.length := by rw [HNN.out]; exact hq
            have hmem := Inv.ino_mem (S := S) hkl
            have HEC := Lib.hid (fun W hW => HEC0.out W hW k' hq)
            have HGV := Lib.hid (fun (h0 : 0 < k') W hW => HGV0.out W hW (S.num k') (by have := HI.out.num_bound hmem; show (S.ino k').num ≤ _; omega) (HI.out.given _ hmem (by have := HI.out.num_lt hkl h0; have := HI.out.num0.1; show S.num k' ≠ 1; omega)))
            have HRISE := Lib.hid (fun j (h : k' = j + 1) => (show S.num j < S.num k' by subst h; exact HI.out.num_lt hkl (by omega)))
            have HD1 := Lib.hid (show S.dir k' = true → S.dat k' = ⟨#[]⟩ from fun h => by
              have h2 := HI.out.isDir _ hmem h
              show (S.ino k').data = _
              generalize (S.ino k').data = dd at h2 ⊢
              obtain ⟨da⟩ := dd
              have : da = #[] := Array.eq_empty_of_size_eq_zero h2
              rw [this])
            have HD2 := Lib.hid (show S.dir k' = false → S.ne k' = 0 from fun h => by show (S.ino k').ents.length = 0; rw [HI.out.isFile _ hmem h]; rfl)
            have hdat : (S.dat k').size ≤ 256 := HI.out.dat _ hmem
            have hev := (HSR.out.ent k' hkl).form
            obtain ⟨EA, ecap, hev⟩ := hev
            rw [hev] at q2 HEC
            have HLC2 := Lib.hid (fun W hW => HLC.out W hW (S.num k'))
            have HIC2 := Lib.hid (fun W hW => HIC.out W hW (S.num k'))
            have hbk : k' < bs.length := by rw [HBL.out]; exact hq
            have HBV := Lib.hid (boolsV_at hbk)
            clear hcell hmem hir hev
            obtain ⟨xn, hxn⟩ : ∃ x, S.num k' = x := ⟨_, rfl⟩
            obtain ⟨dr, hdr⟩ : ∃ x, S.dir k' = x := ⟨_, rfl⟩
            obtain ⟨dat, hdt⟩ : ∃ x, S.dat k' = x := ⟨_, rfl⟩
            obtain ⟨ne, hne⟩ : ∃ x, S.ne k' = x := ⟨_, rfl⟩
            rw [hxn] at q0 HEC HGV HRISE HLC2 HIC2
            rw [hdr] at q1 HEC HD1 HD2
            rw [hdt] at q3 HEC HD1 hdat
            rw [hne] at q2 HEC HD2
            clear hxn hdr hdt hne
            have HX := Lib.hid (Blk.new wr 56 #[.int .i64 xn, .bool dr, .slice EA ne ecap, .string dat])
            have HPX := Lib.hid (HPB.out.alloc (.cells #[.int .i64 xn, .bool dr, .slice EA ne ecap, .string dat] 56))
            have HFX := Lib.hid (HFB.out.alloc (.cells #[.int .i64 xn, .bool dr, .slice EA ne ecap, .string dat] 56))
            have HBX := Lib.hid (below_alloc wr (.cells #[.int .i64 xn, .bool dr, .slice EA ne ecap, .string dat] 56))
            have HSW := Lib.hid (HSR.out.keep HBX.out)
            have HIW := Lib.hid (HIR.out.keep HBX.out)
            have HPL := Lib.hid HPB.out.lt
            go_upto_region 15 with (fail)
            clear q0 q1 q2 q3 c0 HIR HSR HPB HFB
            obtain ⟨xb, hxb⟩ : ∃ x, x = wr.heap.size := ⟨_, rfl⟩
            have HXB := Lib.hid hxb
            rw [← hxb] at HX ⊢
            clear hxb
            obtain ⟨W1, hW1⟩ : ∃ W1, W1 = wr.alloc (.cells #[.int .i64 xn, .bool dr, .slice EA ne ecap, .string dat] 56) := ⟨_, rfl⟩
            rw [← hW1] at HX HPX HFX HBX HSW HIW ⊢
            clear hW1
            have p0 : W1.cell? ⟨p, 0, none⟩ = some (.slice (some ⟨ig, ioff, none⟩) n cap) := HPX.out.cell 0
            have p1 : W1.cell? ⟨p, 1, none⟩ = some (.slice OA no ocap) := HPX.out.cell 1
            have p2 : W1.cell? ⟨p, 2, none⟩ = some (.slice MA k mcap) := HPX.out.cell 2
            have x0 : W1.cell? ⟨xb, 0, none⟩ = some (.int .i64 xn) := HX.out.cell 0
            have x1 : W1.cell? ⟨xb, 1, none⟩ = some (.bool dr) := HX.out.cell 1
            have x2 : W1.cell? ⟨xb, 2, none⟩ = some (.slice EA ne ecap) := HX.out.cell 2
            have x3 : W1.cell? ⟨xb, 3, none⟩ = some (.string dat) := HX.out.cell 3
            have hd256 : ¬ (256 : Int) < (dat.size : Int) := by omega
            go_cut [136] (fun s wx => ∃ b, s = .bool b ∧ Below W1.heap.size W1 wx)
            case first =>
              clear HLC HLC2 HIC HIC2 HI HGV0 HEC0 HFX HBV
              by_cases hk0 : 0 < k'
              · obtain ⟨j, rfl⟩ : ∃ j, k' = j + 1 := ⟨k' - 1, by omega⟩
                have HGV := Lib.hid (HGV.out hk0)
                have hrs := HRISE.out j rfl
                obtain ⟨-, -, ig', ioff', e, hcell⟩ := HIW.out.at_ (i := j) (by omega)
                injection e with e
                injection e with e1 e2
                subst e1 e2
                have z0 : W1.cell? ⟨ig, ioff + j * 4, none⟩ = some (.int .i64 (S.num j)) := hcell 0 (by omega)
                clear hcell HRISE
                generalize S.num j = xj at *
                have hrs2 : ¬ xn ≤ xj := by omega
                have ej : IntKind.i64.wrap ((j : Int) + 1 - 1) = (j : Int) := by rw [IntWalk.i64_in _ (by omega)]; omega
                have ej2 : IntKind.i64.wrap (j : Int) = (j : Int) := IntWalk.i64_in _ (by omega)
                have ej3 : (0 : Int) ≤ (j : Int) := by omega
                have ej4 : (j : Int) < (n : Int) := by omega
                have ej5 : (0 : Int) < (j : Int) + 1 := by omega
                rcases bool_tf dr with rfl | rfl
                · obtain rfl := HD1.out rfl
                  refine wp_region_held_drew (S := fun w' => w'.cell? ⟨p, 0, none⟩ = some (.slice (some ⟨ig, ioff, none⟩) n cap) ∧ w'.cell? ⟨p, 1, none⟩ = some (.slice OA no ocap) ∧ w'.cell? ⟨p, 2, none⟩ = some (.slice MA k mcap) ∧ w'.cell? ⟨xb, 0, none⟩ = some (.int .i64 xn) ∧ w'.cell? ⟨xb, 1, none⟩ = some (.bool true) ∧ w'.cell? ⟨xb, 2, none⟩ = some (.slice EA ne ecap) ∧ w'.cell? ⟨xb, 3, none⟩ = some (.string ⟨#[]⟩) ∧ w'.cell? ⟨ig, ioff + j * 4, none⟩ = some (.int .i64 xj)) (by kernel_rfl) (⟨p0, p1, p2, x0, x1, x2, x3, z0⟩) (fun hHeld => ?_)
                  refine wpAnyH_take (i := 0) (oi := ⟨some 84, _, _, _, _, _⟩) (v := .int .i64 (j + 1)) rfl (by kernel_rfl) (by kernel_rfl) (by kernel_rfl) (fun _ _ _ h => h) (Or.inl ⟨by kernel_rfl, fun w hSw => by go_simp⟩) (by assumption) ?_
                  simp only [Act.put, lTA, lC0, lCS]
                  refine wpAnyH_take (i := 1) (oi := ⟨some 85, _, _, _, _, _⟩) (v := .bool true) rfl (by kernel_rfl) (by kernel_rfl) (by kernel_rfl) (fun _ _ _ h => h) (Or.inl ⟨by kernel_rfl, fun w hSw => by go_simp⟩) (by assumption) ?_
                  simp only [Act.put, lTA, lC0, lCS]
                  refine wpAnyH_take (i := 2) (oi := ⟨some 86, _, _, _, _, _⟩) (v := .bool true) rfl (by kernel_rfl) (by kernel_rfl) (by kernel_rfl) (fun _ _ _ h => h) (Or.inl ⟨by kernel_rfl, fun w hSw => by go_simp⟩) (by assumption) ?_
                  simp only [Act.put, lTA, lC0, lCS]
                  refine wpAnyH_take (i := 3) (oi := ⟨some 87, _, _, _, _, _⟩) (v := .pointer (some ⟨p, 0, none⟩)) rfl (by kernel_rfl) (by kernel_rfl) (by kernel_rfl) (fun _ _ _ h => h) (Or.inl ⟨by kernel_rfl, fun w hSw => by go_simp⟩) (by assumption) ?_
                  simp only [Act.put, lTA, lC0, lCS]
                  refine wpAnyH_take (i := 4) (oi := ⟨some 88, _, _, _, _, _⟩) (v := .slice (some ⟨ig, ioff, none⟩) n cap) rfl (by kernel_rfl) (by kernel_rfl) (by kernel_rfl) (fun _ _ _ h => h) (Or.inl ⟨by kernel_rfl, fun w hSw => by go_simp⟩) (by assumption) ?_
                  simp only [Act.put, lTA, lC0, lCS]
                  refine wpAnyH_take (i := 5) (oi := ⟨some 89, _, _, _, _, _⟩) (v := .int .i64 (j + 1)) rfl (by kernel_rfl) (by kernel_rfl) (by kernel_rfl) (fun _ _ _ h => h) (Or.inl ⟨by kernel_rfl, fun w hSw => by go_simp⟩) (by assumption) ?_
                  simp only [Act.put, lTA, lC0, lCS]
                  refine wpAnyH_take (i := 6) (oi := ⟨some 90, _, _, _, _, _⟩) (v := .int .i64 j) rfl (by kernel_rfl) (by kernel_rfl) (by kernel_rfl) (fun _ _ _ h => h) (Or.inl ⟨by kernel_rfl, fun w hSw => by go_simp⟩) (by assumption) ?_
                  simp only [Act.put, lTA, lC0, lCS]
                  refine wpAnyH_take (i := 7) (oi := ⟨some 91, _, _, _, _, _⟩) (v := .pointer (some ⟨ig, ioff + j * 4, none⟩)) rfl (by kernel_rfl) (by kernel_rfl) (by kernel_rfl) (fun _ _ _ h => h) (Or.inl ⟨by kernel_rfl, fun w hSw => by go_simp⟩) (by assumption) ?_
                  simp only [Act.put, lTA, lC0, lCS]
                  refine wpAnyH_take (i := 8) (oi := ⟨some 92, _, _, _, _, _⟩) (v := .pointer (some ⟨ig, ioff + j * 4, none⟩)) rfl (by kernel_rfl) (by kernel_rfl) (by kernel_rfl) (fun _ _ _ h => h) (Or.inl ⟨by kernel_rfl, fun w hSw => by go_simp⟩) (by assumption) ?_
                  simp only [Act.put, lTA, lC0, lCS]
                  refine wpAnyH_take (i := 9) (oi := ⟨some 93, _, _, _, _, _⟩) (v := .int .i64 xj) rfl (by kernel_rfl) (by kernel_rfl) (by kernel_rfl) (fun _ _ _ h => h) (Or.inl ⟨by kernel_rfl, fun w hSw => by go_simp⟩) (by assumption) ?_
                  simp only [Act.put, lTA, lC0, lCS]
                  refine wpAnyH_take (i := 10) (oi := ⟨some 94, _, _, _, _, _⟩) (v := .pointer (some ⟨xb, 0, none⟩)) rfl (by kernel_rfl) (by kernel_rfl) (by kernel_rfl) (fun _ _ _ h => h) (Or.inl ⟨by kernel_rfl, fun w hSw => by go_simp⟩) (by assumption) ?_
                  simp only [Act.put, lTA, lC0, lCS]
                  refine wpAnyH_take (i := 11) (oi := ⟨some 95, _, _, _, _, _⟩) (v := .int .i64 xn) rfl (by kernel_rfl) (by kernel_rfl) (by kernel_rfl) (fun _ _ _ h => h) (Or.inl ⟨by kernel_rfl, fun w hSw => by go_simp⟩) (by assumption) ?_
                  simp only [Act.put, lTA, lC0, lCS]
                  refine wpAnyH_take (i := 12) (oi := ⟨some 96, _, _, _, _, _⟩) (v := .bool false) rfl (by kernel_rfl) (by kernel_rfl) (by kernel_rfl) (fun _ _ _ h => h) (Or.inl ⟨by kernel_rfl, fun w hSw => by go_simp⟩) (by assumption) ?_
                  simp only [Act.put, lTA, lC0, lCS]
                  refine wpAnyH_take (i := 13) (oi := ⟨some 97, _, _, _, _, _⟩) (v := .bool false) rfl (by kernel_rfl) (by kernel_rfl) (by kernel_rfl) (fun _ _ _ h => h) (Or.inl ⟨by kernel_rfl, fun w hSw => by go_simp⟩) (by assumption) ?_
                  simp only [Act.put, lTA, lC0, lCS]
                  refine wpAnyH_take (i := 14) (oi := ⟨some 98, _, _, _, _, _⟩) (v := .agg #[.slice (some ⟨ig, ioff, none⟩) n cap, .slice OA no ocap, .slice MA k mcap]) rfl (by kernel_rfl) (by kernel_rfl) (by kernel_rfl) (fun _ _ _ h => h) (Or.inl ⟨by kernel_rfl, fun w hSw => by go_simp⟩) (by assumption) ?_
                  simp only [Act.put, lTA, lC0, lCS]
                  refine wpAnyH_take (i := 15) (oi := ⟨some 99, _, _, _, _, _⟩) (v := .pointer (some ⟨xb, 0, none⟩)) rfl (by kernel_rfl) (by kernel_rfl) (by kernel_rfl) (fun _ _ _ h => h) (Or.inl ⟨by kernel_rfl, fun w hSw => by go_simp⟩) (by assumption) ?_
                  simp only [Act.put, lTA, lC0, lCS]
                  refine wpAnyH_take (i := 16) (oi := ⟨some 100, _, _, _, _, _⟩) (v := .int .i64 xn) rfl (by kernel_rfl) (by kernel_rfl) (by kernel_rfl) (fun _ _ _ h => h) (Or.inl ⟨by kernel_rfl, fun w hSw => by go_simp⟩) (by assumption) ?_
                  simp only [Act.put, lTA, lC0, lCS]
                  refine wpAnyH_ready (rs := [17]) (by kernel_rfl) (by simp) ?_
                  refine AllReadyH.cons rfl (fun K hK => ?_) AllReadyH.nil
                  go_simp
                  refine (HGV.out (W1.drewN 1) (HSW.out.keep (show Below W1.heap.size W1 (W1.drewN 1) from ⟨rfl, rfl, rfl, Nat.le_refl _, fun _ _ => rfl⟩))).mono ?_
                  rintro e w2 ⟨rfl, hB2⟩
                  show K _ _
                  refine hK.out _ _ (⟨(hB2.cell (World.block_lt_of_cell? _ _ hHeld.1)).trans hHeld.1, (hB2.cell (World.block_lt_of_cell? _ _ hHeld.2.1)).trans hHeld.2.1, (hB2.cell (World.block_lt_of_cell? _ _ hHeld.2.2.1)).trans hHeld.2.2.1, (hB2.cell (World.block_lt_of_cell? _ _ hHeld.2.2.2.1)).trans hHeld.2.2.2.1, (hB2.cell (World.block_lt_of_cell? _ _ hHeld.2.2.2.2.1)).trans hHeld.2.2.2.2.1, (hB2.cell (World.block_lt_of_cell? _ _ hHeld.2.2.2.2.2.1)).trans hHeld.2.2.2.2.2.1, (hB2.cell (World.block_lt_of_cell? _ _ hHeld.2.2.2.2.2.2.1)).trans hHeld.2.2.2.2.2.2.1, (hB2.cell (World.block_lt_of_cell? _ _ hHeld.2.2.2.2.2.2.2)).trans hHeld.2.2.2.2.2.2.2⟩) (fun hHeld => ?_)
                  clear hK K
                  refine wpAnyH_take (i := 18) (oi := ⟨some 102, _, _, _, _, _⟩) (v := .bool false) rfl (by kernel_rfl) (by kernel_rfl) (by kernel_rfl) (fun _ _ _ h => h) (Or.inl ⟨by kernel_rfl, fun w hSw => by go_simp⟩) (by assumption) ?_
                  simp only [Act.put, lTA, lC0, lCS]
                  refine wpAnyH_take (i := 19) (oi := ⟨some 103, _, _, _, _, _⟩) (v := .bool false) rfl (by kernel_rfl) (by kernel_rfl) (by kernel_rfl) (fun _ _ _ h => h) (Or.inl ⟨by kernel_rfl, fun w hSw => by go_simp⟩) (by assumption) ?_
                  simp only [Act.put, lTA, lC0, lCS]
                  refine wpAnyH_take (i := 20) (oi := ⟨some 104, _, _, _, _, _⟩) (v := .bool false) rfl (by kernel_rfl) (by kernel_rfl) (by kernel_rfl) (fun _ _ _ h => h) (Or.inl ⟨by kernel_rfl, fun w hSw => by go_simp⟩) (by assumption) ?_
                  simp only [Act.put, lTA, lC0, lCS]
                  refine wpAnyH_take (i := 21) (oi := ⟨some 105, _, _, _, _, _⟩) (v := .bool false) rfl (by kernel_rfl) (by kernel_rfl) (by kernel_rfl) (fun _ _ _ h => h) (Or.inl ⟨by kernel_rfl, fun w hSw => by go_simp⟩) (by assumption) ?_
                  simp only [Act.put, lTA, lC0, lCS]
                  refine wpAnyH_take (i := 22) (oi := ⟨some 106, _, _, _, _, _⟩) (v := .pointer (some ⟨xb, 3, none⟩)) rfl (by kernel_rfl) (by kernel_rfl) (by kernel_rfl) (fun _ _ _ h => h) (Or.inl ⟨by kernel_rfl, fun w hSw => by go_simp⟩) (by assumption) ?_
                  simp only [Act.put, lTA, lC0, lCS]
                  refine wpAnyH_take (i := 23) (oi := ⟨some 107, _, _, _, _, _⟩) (v := .string ⟨#[]⟩) rfl (by kernel_rfl) (by kernel_rfl) (by kernel_rfl) (fun _ _ _ h => h) (Or.inl ⟨by kernel_rfl, fun w hSw => by go_simp⟩) (by assumption) ?_
                  simp only [Act.put, lTA, lC0, lCS]
                  refine wpAnyH_take (i := 24) (oi := ⟨some 108, _, _, _, _, _⟩) (v := .int .i64 0) rfl (by kernel_rfl) (by kernel_rfl) (by kernel_rfl) (fun _ _ _ h => h) (Or.inl ⟨by kernel_rfl, fun w hSw => by go_simp⟩) (by assumption) ?_
                  simp only [Act.put, lTA, lC0, lCS]
                  refine wpAnyH_take (i := 25) (oi := ⟨some 109, _, _, _, _, _⟩) (v := .bool false) rfl (by kernel_rfl) (by kernel_rfl) (by kernel_rfl) (fun _ _ _ h => h) (Or.inl ⟨by kernel_rfl, fun w hSw => by go_simp⟩) (by assumption) ?_
                  simp only [Act.put, lTA, lC0, lCS]
                  refine wpAnyH_take (i := 26) (oi := ⟨some 110, _, _, _, _, _⟩) (v := .bool false) rfl (by kernel_rfl) (by kernel_rfl) (by kernel_rfl) (fun _ _ _ h => h) (Or.inl ⟨by kernel_rfl, fun w hSw => by go_simp⟩) (by assumption) ?_
                  simp only [Act.put, lTA, lC0, lCS]
                  refine wpAnyH_take (i := 27) (oi := ⟨some 111, _, _, _, _, _⟩) (v := .bool false) rfl (by kernel_rfl) (by kernel_rfl) (by kernel_rfl) (fun _ _ _ h => h) (Or.inl ⟨by kernel_rfl, fun w hSw => by go_simp⟩) (by assumption) ?_
                  simp only [Act.put, lTA, lC0, lCS]
                  refine wpAnyH_take (i := 28) (oi := ⟨some 112, _, _, _, _, _⟩) (v := .pointer (some ⟨xb, 1, none⟩)) rfl (by kernel_rfl) (by kernel_rfl) (by kernel_rfl) (fun _ _ _ h => h) (Or.inl ⟨by kernel_rfl, fun w hSw => by go_simp⟩) (by assumption) ?_
                  simp only [Act.put, lTA, lC0, lCS]
                  refine wpAnyH_take (i := 29) (oi := ⟨some 113, _, _, _, _, _⟩) (v := .bool true) rfl (by kernel_rfl) (by kernel_rfl) (by kernel_rfl) (fun _ _ _ h => h) (Or.inl ⟨by kernel_rfl, fun w hSw => by go_simp⟩) (by assumption) ?_
                  simp only [Act.put, lTA, lC0, lCS]
                  refine wpAnyH_take (i := 30) (oi := ⟨some 114, _, _, _, _, _⟩) (v := .bool true) rfl (by kernel_rfl) (by kernel_rfl) (by kernel_rfl) (fun _ _ _ h => h) (Or.inl ⟨by kernel_rfl, fun w hSw => by go_simp⟩) (by assumption) ?_
                  simp only [Act.put, lTA, lC0, lCS]
                  refine wpAnyH_take (i := 31) (oi := ⟨some 115, _, _, _, _, _⟩) (v := .pointer (some ⟨xb, 3, none⟩)) rfl (by kernel_rfl) (by kernel_rfl) (by kernel_rfl) (fun _ _ _ h => h) (Or.inl ⟨by kernel_rfl, fun w hSw => by go_simp⟩) (by assumption) ?_
                  simp only [Act.put, lTA, lC0, lCS]
                  refine wpAnyH_take (i := 32) (oi := ⟨some 116, _, _, _, _, _⟩) (v := .string ⟨#[]⟩) rfl (by kernel_rfl) (by kernel_rfl) (by kernel_rfl) (fun _ _ _ h => h) (Or.inl ⟨by kernel_rfl, fun w hSw => by go_simp⟩) (by assumption) ?_
                  simp only [Act.put, lTA, lC0, lCS]
                  refine wpAnyH_take (i := 33) (oi := ⟨some 117, _, _, _, _, _⟩) (v := .bool false) rfl (by kernel_rfl) (by kernel_rfl) (by kernel_rfl) (fun _ _ _ h => h) (Or.inl ⟨by kernel_rfl, fun w hSw => by go_simp⟩) (by assumption) ?_
                  simp only [Act.put, lTA, lC0, lCS]
                  refine wpAnyH_take (i := 34) (oi := ⟨some 118, _, _, _, _, _⟩) (v := .bool false) rfl (by kernel_rfl) (by kernel_rfl) (by kernel_rfl) (fun _ _ _ h => h) (Or.inl ⟨by kernel_rfl, fun w hSw => by go_simp⟩) (by assumption) ?_
                  simp only [Act.put, lTA, lC0, lCS]
                  refine wpAnyH_take (i := 35) (oi := ⟨some 119, _, _, _, _, _⟩) (v := .bool false) rfl (by kernel_rfl) (by kernel_rfl) (by kernel_rfl) (fun _ _ _ h => h) (Or.inl ⟨by kernel_rfl, fun w hSw => by go_simp⟩) (by assumption) ?_
                  simp only [Act.put, lTA, lC0, lCS]
                  refine wpAnyH_take (i := 36) (oi := ⟨some 120, _, _, _, _, _⟩) (v := .bool false) rfl (by kernel_rfl) (by kernel_rfl) (by kernel_rfl) (fun _ _ _ h => h) (Or.inl ⟨by kernel_rfl, fun w hSw => by go_simp⟩) (by assumption) ?_
                  simp only [Act.put, lTA, lC0, lCS]
                  refine wpAnyH_take (i := 37) (oi := ⟨some 121, _, _, _, _, _⟩) (v := .pointer (some ⟨xb, 1, none⟩)) rfl (by kernel_rfl) (by kernel_rfl) (by kernel_rfl) (fun _ _ _ h => h) (Or.inl ⟨by kernel_rfl, fun w hSw => by go_simp⟩) (by assumption) ?_
                  simp only [Act.put, lTA, lC0, lCS]
                  refine wpAnyH_take (i := 38) (oi := ⟨some 122, _, _, _, _, _⟩) (v := .bool true) rfl (by kernel_rfl) (by kernel_rfl) (by kernel_rfl) (fun _ _ _ h => h) (Or.inl ⟨by kernel_rfl, fun w hSw => by go_simp⟩) (by assumption) ?_
                  simp only [Act.put, lTA, lC0, lCS]
                  refine wpAnyH_take (i := 39) (oi := ⟨some 123, _, _, _, _, _⟩) (v := .bool false) rfl (by kernel_rfl) (by kernel_rfl) (by kernel_rfl) (fun _ _ _ h => h) (Or.inl ⟨by kernel_rfl, fun w hSw => by go_simp⟩) (by assumption) ?_
                  simp only [Act.put, lTA, lC0, lCS]
                  refine wpAnyH_take (i := 40) (oi := ⟨some 124, _, _, _, _, _⟩) (v := .bool false) rfl (by kernel_rfl) (by kernel_rfl) (by kernel_rfl) (fun _ _ _ h => h) (Or.inl ⟨by kernel_rfl, fun w hSw => by go_simp⟩) (by assumption) ?_
                  simp only [Act.put, lTA, lC0, lCS]
                  refine wpAnyH_take (i := 41) (oi := ⟨some 125, _, _, _, _, _⟩) (v := undef) rfl (by kernel_rfl) (by kernel_rfl) (by kernel_rfl) (fun _ _ _ h => h) (Or.inr ⟨by kernel_rfl, rfl⟩) (by assumption) ?_
                  simp only [Act.put, lTA, lC0, lCS]
                  refine wpAnyH_take (i := 42) (oi := ⟨some 126, _, _, _, _, _⟩) (v := undef) rfl (by kernel_rfl) (by kernel_rfl) (by kernel_rfl) (fun _ _ _ h => h) (Or.inr ⟨by kernel_rfl, rfl⟩) (by assumption) ?_
                  simp only [Act.put, lTA, lC0, lCS]
                  refine wpAnyH_take (i := 43) (oi := ⟨some 127, _, _, _, _, _⟩) (v := undef) rfl (by kernel_rfl) (by kernel_rfl) (by kernel_rfl) (fun _ _ _ h => h) (Or.inr ⟨by kernel_rfl, rfl⟩) (by assumption) ?_
                  simp only [Act.put, lTA, lC0, lCS]
                  refine wpAnyH_take (i := 44) (oi := ⟨some 128, _, _, _, _, _⟩) (v := undef) rfl (by kernel_rfl) (by kernel_rfl) (by kernel_rfl) (fun _ _ _ h => h) (Or.inr ⟨by kernel_rfl, rfl⟩) (by assumption) ?_
                  simp only [Act.put, lTA, lC0, lCS]
                  refine wpAnyH_take (i := 45) (oi := ⟨some 129, _, _, _, _, _⟩) (v := .bool false) rfl (by kernel_rfl) (by kernel_rfl) (by kernel_rfl) (fun _ _ _ h => h) (Or.inl ⟨by kernel_rfl, fun w hSw => by go_simp⟩) (by assumption) ?_
                  simp only [Act.put, lTA, lC0, lCS]
                  refine wpAnyH_take (i := 46) (oi := ⟨some 130, _, _, _, _, _⟩) (v := .bool false) rfl (by kernel_rfl) (by kernel_rfl) (by kernel_rfl) (fun _ _ _ h => h) (Or.inl ⟨by kernel_rfl, fun w hSw => by go_simp⟩) (by assumption) ?_
                  simp only [Act.put, lTA, lC0, lCS]
                  refine wpAnyH_take (i := 47) (oi := ⟨some 131, _, _, _, _, _⟩) (v := .bool false) rfl (by kernel_rfl) (by kernel_rfl) (by kernel_rfl) (fun _ _ _ h => h) (Or.inl ⟨by kernel_rfl, fun w hSw => by go_simp⟩) (by assumption) ?_
                  simp only [Act.put, lTA, lC0, lCS]
                  refine wpAnyH_take (i := 48) (oi := ⟨some 132, _, _, _, _, _⟩) (v := .agg #[.slice (some ⟨ig, ioff, none⟩) n cap, .slice OA no ocap, .slice MA k mcap]) rfl (by kernel_rfl) (by kernel_rfl) (by kernel_rfl) (fun _ _ _ h => h) (Or.inl ⟨by kernel_rfl, fun w hSw => by go_simp⟩) (by assumption) ?_
                  simp only [Act.put, lTA, lC0, lCS]
                  refine wpAnyH_take (i := 49) (oi := ⟨some 133, _, _, _, _, _⟩) (v := .agg #[.int .i64 xn, .bool true, .slice EA ne ecap, .string ⟨#[]⟩]) rfl (by kernel_rfl) (by kernel_rfl) (by kernel_rfl) (fun _ _ _ h => h) (Or.inl ⟨by kernel_rfl, fun w hSw => by go_simp⟩) (by assumption) ?_
                  simp only [Act.put, lTA, lC0, lCS]
                  refine wpAnyH_ready (rs := [50]) (by kernel_rfl) (by simp) ?_
                  refine AllReadyH.cons rfl (fun K hK => ?_) AllReadyH.nil
                  go_simp
                  refine (HEC.out w2 (HSW.out.keep (Below.trans (b := W1.drewN 1) ⟨rfl, rfl, rfl, Nat.le_refl _, fun _ _ => rfl⟩ hB2))).mono ?_
                  rintro e w3 ⟨⟨b, rfl⟩, hB3⟩
                  show K _ _
                  refine hK.out _ _ (⟨(hB3.cell (World.block_lt_of_cell? _ _ hHeld.1)).trans hHeld.1, (hB3.cell (World.block_lt_of_cell? _ _ hHeld.2.1)).trans hHeld.2.1, (hB3.cell (World.block_lt_of_cell? _ _ hHeld.2.2.1)).trans hHeld.2.2.1, (hB3.cell (World.block_lt_of_cell? _ _ hHeld.2.2.2.1)).trans hHeld.2.2.2.1, (hB3.cell (World.block_lt_of_cell? _ _ hHeld.2.2.2.2.1)).trans hHeld.2.2.2.2.1, (hB3.cell (World.block_lt_of_cell? _ _ hHeld.2.2.2.2.2.1)).trans hHeld.2.2.2.2.2.1, (hB3.cell (World.block_lt_of_cell? _ _ hHeld.2.2.2.2.2.2.1)).trans hHeld.2.2.2.2.2.2.1, (hB3.cell (World.block_lt_of_cell? _ _ hHeld.2.2.2.2.2.2.2)).trans hHeld.2.2.2.2.2.2.2⟩) (fun hHeld => ?_)
                  clear hK K
                  refine wpAnyH_take (i := 51) (oi := ⟨some 135, _, _, _, _, _⟩) (v := .bool (!b)) rfl (by kernel_rfl) (by kernel_rfl) (by kernel_rfl) (fun _ _ _ h => h) (Or.inl ⟨by kernel_rfl, fun w hSw => by go_simp⟩) (by assumption) ?_
                  simp only [Act.put, lTA, lC0, lCS]
                  refine wpAnyH_take (i := 52) (oi := ⟨some 136, _, _, _, _, _⟩) (v := .bool (!b)) rfl (by kernel_rfl) (by kernel_rfl) (by kernel_rfl) (fun _ _ _ h => h) (Or.inl ⟨by kernel_rfl, fun w hSw => by go_simp⟩) (by assumption) ?_
                  simp only [Act.put, lTA, lC0, lCS]
                  refine wpAnyH_done (by kernel_rfl) ?_ _
                  go_wp2_with (fail)
                  go_meet
                  case rel => exact ⟨_, rfl, Below.trans (b := W1.drewN 1) ⟨rfl, rfl, rfl, Nat.le_refl _, fun _ _ => rfl⟩ (hB2.trans (hB3.mono hB2.size))⟩
                · obtain rfl := HD2.out rfl
                  refine wp_region_held_drew (S := fun w' => w'.cell? ⟨p, 0, none⟩ = some (.slice (some ⟨ig, ioff, none⟩) n cap) ∧ w'.cell? ⟨p, 1, none⟩ = some (.slice OA no ocap) ∧ w'.cell? ⟨p, 2, none⟩ = some (.slice MA k mcap) ∧ w'.cell? ⟨xb, 0, none⟩ = some (.int .i64 xn) ∧ w'.cell? ⟨xb, 1, none⟩ = some (.bool false) ∧ w'.cell? ⟨xb, 2, none⟩ = some (.slice EA 0 ecap) ∧ w'.cell? ⟨xb, 3, none⟩ = some (.string dat) ∧ w'.cell? ⟨ig, ioff + j * 4, none⟩ = some (.int .i64 xj)) (by kernel_rfl) (⟨p0, p1, p2, x0, x1, x2, x3, z0⟩) (fun hHeld => ?_)
                  refine wpAnyH_take (i := 0) (oi := ⟨some 84, _, _, _, _, _⟩) (v := .int .i64 (j + 1)) rfl (by kernel_rfl) (by kernel_rfl) (by kernel_rfl) (fun _ _ _ h => h) (Or.inl ⟨by kernel_rfl, fun w hSw => by go_simp⟩) (by assumption) ?_
                  simp only [Act.put, lTA, lC0, lCS]
                  refine wpAnyH_take (i := 1) (oi := ⟨some 85, _, _, _, _, _⟩) (v := .bool true) rfl (by kernel_rfl) (by kernel_rfl) (by kernel_rfl) (fun _ _ _ h => h) (Or.inl ⟨by kernel_rfl, fun w hSw => by go_simp⟩) (by assumption) ?_
                  simp only [Act.put, lTA, lC0, lCS]
                  refine wpAnyH_take (i := 2) (oi := ⟨some 86, _, _, _, _, _⟩) (v := .bool true) rfl (by kernel_rfl) (by kernel_rfl) (by kernel_rfl) (fun _ _ _ h => h) (Or.inl ⟨by kernel_rfl, fun w hSw => by go_simp⟩) (by assumption) ?_
                  simp only [Act.put, lTA, lC0, lCS]
                  refine wpAnyH_take (i := 3) (oi := ⟨some 87, _, _, _, _, _⟩) (v := .pointer (some ⟨p, 0, none⟩)) rfl (by kernel_rfl) (by kernel_rfl) (by kernel_rfl) (fun _ _ _ h => h) (Or.inl ⟨by kernel_rfl, fun w hSw => by go_simp⟩) (by assumption) ?_
                  simp only [Act.put, lTA, lC0, lCS]
                  refine wpAnyH_take (i := 4) (oi := ⟨some 88, _, _, _, _, _⟩) (v := .slice (some ⟨ig, ioff, none⟩) n cap) rfl (by kernel_rfl) (by kernel_rfl) (by kernel_rfl) (fun _ _ _ h => h) (Or.inl ⟨by kernel_rfl, fun w hSw => by go_simp⟩) (by assumption) ?_
                  simp only [Act.put, lTA, lC0, lCS]
                  refine wpAnyH_take (i := 5) (oi := ⟨some 89, _, _, _, _, _⟩) (v := .int .i64 (j + 1)) rfl (by kernel_rfl) (by kernel_rfl) (by kernel_rfl) (fun _ _ _ h => h) (Or.inl ⟨by kernel_rfl, fun w hSw => by go_simp⟩) (by assumption) ?_
                  simp only [Act.put, lTA, lC0, lCS]
                  refine wpAnyH_take (i := 6) (oi := ⟨some 90, _, _, _, _, _⟩) (v := .int .i64 j) rfl (by kernel_rfl) (by kernel_rfl) (by kernel_rfl) (fun _ _ _ h => h) (Or.inl ⟨by kernel_rfl, fun w hSw => by go_simp⟩) (by assumption) ?_
                  simp only [Act.put, lTA, lC0, lCS]
                  refine wpAnyH_take (i := 7) (oi := ⟨some 91, _, _, _, _, _⟩) (v := .pointer (some ⟨ig, ioff + j * 4, none⟩)) rfl (by kernel_rfl) (by kernel_rfl) (by kernel_rfl) (fun _ _ _ h => h) (Or.inl ⟨by kernel_rfl, fun w hSw => by go_simp⟩) (by assumption) ?_
                  simp only [Act.put, lTA, lC0, lCS]
                  refine wpAnyH_take (i := 8) (oi := ⟨some 92, _, _, _, _, _⟩) (v := .pointer (some ⟨ig, ioff + j * 4, none⟩)) rfl (by kernel_rfl) (by kernel_rfl) (by kernel_rfl) (fun _ _ _ h => h) (Or.inl ⟨by kernel_rfl, fun w hSw => by go_simp⟩) (by assumption) ?_
                  simp only [Act.put, lTA, lC0, lCS]
                  refine wpAnyH_take (i := 9) (oi := ⟨some 93, _, _, _, _, _⟩) (v := .int .i64 xj) rfl (by kernel_rfl) (by kernel_rfl) (by kernel_rfl) (fun _ _ _ h => h) (Or.inl ⟨by kernel_rfl, fun w hSw => by go_simp⟩) (by assumption) ?_
                  simp only [Act.put, lTA, lC0, lCS]
                  refine wpAnyH_take (i := 10) (oi := ⟨some 94, _, _, _, _, _⟩) (v := .pointer (some ⟨xb, 0, none⟩)) rfl (by kernel_rfl) (by kernel_rfl) (by kernel_rfl) (fun _ _ _ h => h) (Or.inl ⟨by kernel_rfl, fun w hSw => by go_simp⟩) (by assumption) ?_
                  simp only [Act.put, lTA, lC0, lCS]
                  refine wpAnyH_take (i := 11) (oi := ⟨some 95, _, _, _, _, _⟩) (v := .int .i64 xn) rfl (by kernel_rfl) (by kernel_rfl) (by kernel_rfl) (fun _ _ _ h => h) (Or.inl ⟨by kernel_rfl, fun w hSw => by go_simp⟩) (by assumption) ?_
                  simp only [Act.put, lTA, lC0, lCS]
                  refine wpAnyH_take (i := 12) (oi := ⟨some 96, _, _, _, _, _⟩) (v := .bool false) rfl (by kernel_rfl) (by kernel_rfl) (by kernel_rfl) (fun _ _ _ h => h) (Or.inl ⟨by kernel_rfl, fun w hSw => by go_simp⟩) (by assumption) ?_
                  simp only [Act.put, lTA, lC0, lCS]
                  refine wpAnyH_take (i := 13) (oi := ⟨some 97, _, _, _, _, _⟩) (v := .bool false) rfl (by kernel_rfl) (by kernel_rfl) (by kernel_rfl) (fun _ _ _ h => h) (Or.inl ⟨by kernel_rfl, fun w hSw => by go_simp⟩) (by assumption) ?_
                  simp only [Act.put, lTA, lC0, lCS]
                  refine wpAnyH_take (i := 14) (oi := ⟨some 98, _, _, _, _, _⟩) (v := .agg #[.slice (some ⟨ig, ioff, none⟩) n cap, .slice OA no ocap, .slice MA k mcap]) rfl (by kernel_rfl) (by kernel_rfl) (by kernel_rfl) (fun _ _ _ h => h) (Or.inl ⟨by kernel_rfl, fun w hSw => by go_simp⟩) (by assumption) ?_
                  simp only [Act.put, lTA, lC0, lCS]
                  refine wpAnyH_take (i := 15) (oi := ⟨some 99, _, _, _, _, _⟩) (v := .pointer (some ⟨xb, 0, none⟩)) rfl (by kernel_rfl) (by kernel_rfl) (by kernel_rfl) (fun _ _ _ h => h) (Or.inl ⟨by kernel_rfl, fun w hSw => by go_simp⟩) (by assumption) ?_
                  simp only [Act.put, lTA, lC0, lCS]
                  refine wpAnyH_take (i := 16) (oi := ⟨some 100, _, _, _, _, _⟩) (v := .int .i64 xn) rfl (by kernel_rfl) (by kernel_rfl) (by kernel_rfl) (fun _ _ _ h => h) (Or.inl ⟨by kernel_rfl, fun w hSw => by go_simp⟩) (by assumption) ?_
                  simp only [Act.put, lTA, lC0, lCS]
                  refine wpAnyH_ready (rs := [17]) (by kernel_rfl) (by simp) ?_
                  refine AllReadyH.cons rfl (fun K hK => ?_) AllReadyH.nil
                  go_simp
                  refine (HGV.out (W1.drewN 1) (HSW.out.keep (show Below W1.heap.size W1 (W1.drewN 1) from ⟨rfl, rfl, rfl, Nat.le_refl _, fun _ _ => rfl⟩))).mono ?_
                  rintro e w2 ⟨rfl, hB2⟩
                  show K _ _
                  refine hK.out _ _ (⟨(hB2.cell (World.block_lt_of_cell? _ _ hHeld.1)).trans hHeld.1, (hB2.cell (World.block_lt_of_cell? _ _ hHeld.2.1)).trans hHeld.2.1, (hB2.cell (World.block_lt_of_cell? _ _ hHeld.2.2.1)).trans hHeld.2.2.1, (hB2.cell (World.block_lt_of_cell? _ _ hHeld.2.2.2.1)).trans hHeld.2.2.2.1, (hB2.cell (World.block_lt_of_cell? _ _ hHeld.2.2.2.2.1)).trans hHeld.2.2.2.2.1, (hB2.cell (World.block_lt_of_cell? _ _ hHeld.2.2.2.2.2.1)).trans hHeld.2.2.2.2.2.1, (hB2.cell (World.block_lt_of_cell? _ _ hHeld.2.2.2.2.2.2.1)).trans hHeld.2.2.2.2.2.2.1, (hB2.cell (World.block_lt_of_cell? _ _ hHeld.2.2.2.2.2.2.2)).trans hHeld.2.2.2.2.2.2.2⟩) (fun hHeld => ?_)
                  clear hK K
                  refine wpAnyH_take (i := 18) (oi := ⟨some 102, _, _, _, _, _⟩) (v := .bool false) rfl (by kernel_rfl) (by kernel_rfl) (by kernel_rfl) (fun _ _ _ h => h) (Or.inl ⟨by kernel_rfl, fun w hSw => by go_simp⟩) (by assumption) ?_
                  simp only [Act.put, lTA, lC0, lCS]
                  refine wpAnyH_take (i := 19) (oi := ⟨some 103, _, _, _, _, _⟩) (v := .bool false) rfl (by kernel_rfl) (by kernel_rfl) (by kernel_rfl) (fun _ _ _ h => h) (Or.inl ⟨by kernel_rfl, fun w hSw => by go_simp⟩) (by assumption) ?_
                  simp only [Act.put, lTA, lC0, lCS]
                  refine wpAnyH_take (i := 20) (oi := ⟨some 104, _, _, _, _, _⟩) (v := .bool false) rfl (by kernel_rfl) (by kernel_rfl) (by kernel_rfl) (fun _ _ _ h => h) (Or.inl ⟨by kernel_rfl, fun w hSw => by go_simp⟩) (by assumption) ?_
                  simp only [Act.put, lTA, lC0, lCS]
                  refine wpAnyH_take (i := 21) (oi := ⟨some 105, _, _, _, _, _⟩) (v := .bool false) rfl (by kernel_rfl) (by kernel_rfl) (by kernel_rfl) (fun _ _ _ h => h) (Or.inl ⟨by kernel_rfl, fun w hSw => by go_simp⟩) (by assumption) ?_
                  simp only [Act.put, lTA, lC0, lCS]
                  refine wpAnyH_take (i := 22) (oi := ⟨some 106, _, _, _, _, _⟩) (v := .pointer (some ⟨xb, 3, none⟩)) rfl (by kernel_rfl) (by kernel_rfl) (by kernel_rfl) (fun _ _ _ h => h) (Or.inl ⟨by kernel_rfl, fun w hSw => by go_simp⟩) (by assumption) ?_
                  simp only [Act.put, lTA, lC0, lCS]
                  refine wpAnyH_take (i := 23) (oi := ⟨some 107, _, _, _, _, _⟩) (v := .string dat) rfl (by kernel_rfl) (by kernel_rfl) (by kernel_rfl) (fun _ _ _ h => h) (Or.inl ⟨by kernel_rfl, fun w hSw => by go_simp⟩) (by assumption) ?_
                  simp only [Act.put, lTA, lC0, lCS]
                  refine wpAnyH_take (i := 24) (oi := ⟨some 108, _, _, _, _, _⟩) (v := .int .i64 dat.size) rfl (by kernel_rfl) (by kernel_rfl) (by kernel_rfl) (fun _ _ _ h => h) (Or.inl ⟨by kernel_rfl, fun w hSw => by go_simp⟩) (by assumption) ?_
                  simp only [Act.put, lTA, lC0, lCS]
                  refine wpAnyH_take (i := 25) (oi := ⟨some 109, _, _, _, _, _⟩) (v := .bool false) rfl (by kernel_rfl) (by kernel_rfl) (by kernel_rfl) (fun _ _ _ h => h) (Or.inl ⟨by kernel_rfl, fun w hSw => by go_simp⟩) (by assumption) ?_
                  simp only [Act.put, lTA, lC0, lCS]
                  refine wpAnyH_take (i := 26) (oi := ⟨some 110, _, _, _, _, _⟩) (v := .bool false) rfl (by kernel_rfl) (by kernel_rfl) (by kernel_rfl) (fun _ _ _ h => h) (Or.inl ⟨by kernel_rfl, fun w hSw => by go_simp⟩) (by assumption) ?_
                  simp only [Act.put, lTA, lC0, lCS]
                  refine wpAnyH_take (i := 27) (oi := ⟨some 111, _, _, _, _, _⟩) (v := .bool false) rfl (by kernel_rfl) (by kernel_rfl) (by kernel_rfl) (fun _ _ _ h => h) (Or.inl ⟨by kernel_rfl, fun w hSw => by go_simp⟩) (by assumption) ?_
                  simp only [Act.put, lTA, lC0, lCS]
                  refine wpAnyH_take (i := 28) (oi := ⟨some 112, _, _, _, _, _⟩) (v := .pointer (some ⟨xb, 1, none⟩)) rfl (by kernel_rfl) (by kernel_rfl) (by kernel_rfl) (fun _ _ _ h => h) (Or.inl ⟨by kernel_rfl, fun w hSw => by go_simp⟩) (by assumption) ?_
                  simp only [Act.put, lTA, lC0, lCS]
                  refine wpAnyH_take (i := 29) (oi := ⟨some 113, _, _, _, _, _⟩) (v := .bool false) rfl (by kernel_rfl) (by kernel_rfl) (by kernel_rfl) (fun _ _ _ h => h) (Or.inl ⟨by kernel_rfl, fun w hSw => by go_simp⟩) (by assumption) ?_
                  simp only [Act.put, lTA, lC0, lCS]
                  refine wpAnyH_take (i := 30) (oi := ⟨some 114, _, _, _, _, _⟩) (v := .bool false) rfl (by kernel_rfl) (by kernel_rfl) (by kernel_rfl) (fun _ _ _ h => h) (Or.inl ⟨by kernel_rfl, fun w hSw => by go_simp⟩) (by assumption) ?_
                  simp only [Act.put, lTA, lC0, lCS]
                  refine wpAnyH_take (i := 31) (oi := ⟨some 115, _, _, _, _, _⟩) (v := undef) rfl (by kernel_rfl) (by kernel_rfl) (by kernel_rfl) (fun _ _ _ h => h) (Or.inr ⟨by kernel_rfl, rfl⟩) (by assumption) ?_
                  simp only [Act.put, lTA, lC0, lCS]
                  refine wpAnyH_take (i := 32) (oi := ⟨some 116, _, _, _, _, _⟩) (v := undef) rfl (by kernel_rfl) (by kernel_rfl) (by kernel_rfl) (fun _ _ _ h => h) (Or.inr ⟨by kernel_rfl, rfl⟩) (by assumption) ?_
                  simp only [Act.put, lTA, lC0, lCS]
                  refine wpAnyH_take (i := 33) (oi := ⟨some 117, _, _, _, _, _⟩) (v := undef) rfl (by kernel_rfl) (by kernel_rfl) (by kernel_rfl) (fun _ _ _ h => h) (Or.inr ⟨by kernel_rfl, rfl⟩) (by assumption) ?_
                  simp only [Act.put, lTA, lC0, lCS]
                  refine wpAnyH_take (i := 34) (oi := ⟨some 118, _, _, _, _, _⟩) (v := .bool false) rfl (by kernel_rfl) (by kernel_rfl) (by kernel_rfl) (fun _ _ _ h => h) (Or.inl ⟨by kernel_rfl, fun w hSw => by go_simp⟩) (by assumption) ?_
                  simp only [Act.put, lTA, lC0, lCS]
                  refine wpAnyH_take (i := 35) (oi := ⟨some 119, _, _, _, _, _⟩) (v := .bool false) rfl (by kernel_rfl) (by kernel_rfl) (by kernel_rfl) (fun _ _ _ h => h) (Or.inl ⟨by kernel_rfl, fun w hSw => by go_simp⟩) (by assumption) ?_
                  simp only [Act.put, lTA, lC0, lCS]
                  refine wpAnyH_take (i := 36) (oi := ⟨some 120, _, _, _, _, _⟩) (v := .bool false) rfl (by kernel_rfl) (by kernel_rfl) (by kernel_rfl) (fun _ _ _ h => h) (Or.inl ⟨by kernel_rfl, fun w hSw => by go_simp⟩) (by assumption) ?_
                  simp only [Act.put, lTA, lC0, lCS]
                  refine wpAnyH_take (i := 37) (oi := ⟨some 121, _, _, _, _, _⟩) (v := .pointer (some ⟨xb, 1, none⟩)) rfl (by kernel_rfl) (by kernel_rfl) (by kernel_rfl) (fun _ _ _ h => h) (Or.inl ⟨by kernel_rfl, fun w hSw => by go_simp⟩) (by assumption) ?_
                  simp only [Act.put, lTA, lC0, lCS]
                  refine wpAnyH_take (i := 38) (oi := ⟨some 122, _, _, _, _, _⟩) (v := .bool false) rfl (by kernel_rfl) (by kernel_rfl) (by kernel_rfl) (fun _ _ _ h => h) (Or.inl ⟨by kernel_rfl, fun w hSw => by go_simp⟩) (by assumption) ?_
                  simp only [Act.put, lTA, lC0, lCS]
                  refine wpAnyH_take (i := 39) (oi := ⟨some 123, _, _, _, _, _⟩) (v := .bool true) rfl (by kernel_rfl) (by kernel_rfl) (by kernel_rfl) (fun _ _ _ h => h) (Or.inl ⟨by kernel_rfl, fun w hSw => by go_simp⟩) (by assumption) ?_
                  simp only [Act.put, lTA, lC0, lCS]
                  refine wpAnyH_take (i := 40) (oi := ⟨some 124, _, _, _, _, _⟩) (v := .bool true) rfl (by kernel_rfl) (by kernel_rfl) (by kernel_rfl) (fun _ _ _ h => h) (Or.inl ⟨by kernel_rfl, fun w hSw => by go_simp⟩) (by assumption) ?_
                  simp only [Act.put, lTA, lC0, lCS]
                  refine wpAnyH_take (i := 41) (oi := ⟨some 125, _, _, _, _, _⟩) (v := .pointer (some ⟨xb, 2, none⟩)) rfl (by kernel_rfl) (by kernel_rfl) (by kernel_rfl) (fun _ _ _ h => h) (Or.inl ⟨by kernel_rfl, fun w hSw => by go_simp⟩) (by assumption) ?_
                  simp only [Act.put, lTA, lC0, lCS]
                  refine wpAnyH_take (i := 42) (oi := ⟨some 126, _, _, _, _, _⟩) (v := .slice EA 0 ecap) rfl (by kernel_rfl) (by kernel_rfl) (by kernel_rfl) (fun _ _ _ h => h) (Or.inl ⟨by kernel_rfl, fun w hSw => by go_simp⟩) (by assumption) ?_
                  simp only [Act.put, lTA, lC0, lCS]
                  refine wpAnyH_take (i := 43) (oi := ⟨some 127, _, _, _, _, _⟩) (v := .int .i64 0) rfl (by kernel_rfl) (by kernel_rfl) (by kernel_rfl) (fun _ _ _ h => h) (Or.inl ⟨by kernel_rfl, fun w hSw => by go_simp⟩) (by assumption) ?_
                  simp only [Act.put, lTA, lC0, lCS]
                  refine wpAnyH_take (i := 44) (oi := ⟨some 128, _, _, _, _, _⟩) (v := .bool false) rfl (by kernel_rfl) (by kernel_rfl) (by kernel_rfl) (fun _ _ _ h => h) (Or.inl ⟨by kernel_rfl, fun w hSw => by go_simp⟩) (by assumption) ?_
                  simp only [Act.put, lTA, lC0, lCS]
                  refine wpAnyH_take (i := 45) (oi := ⟨some 129, _, _, _, _, _⟩) (v := .bool false) rfl (by kernel_rfl) (by kernel_rfl) (by kernel_rfl) (fun _ _ _ h => h) (Or.inl ⟨by kernel_rfl, fun w hSw => by go_simp⟩) (by assumption) ?_
                  simp only [Act.put, lTA, lC0, lCS]
                  refine wpAnyH_take (i := 46) (oi := ⟨some 130, _, _, _, _, _⟩) (v := .bool false) rfl (by kernel_rfl) (by kernel_rfl) (by kernel_rfl) (fun _ _ _ h => h) (Or.inl ⟨by kernel_rfl, fun w hSw => by go_simp⟩) (by assumption) ?_
                  simp only [Act.put, lTA, lC0, lCS]
                  refine wpAnyH_take (i := 47) (oi := ⟨some 131, _, _, _, _, _⟩) (v := .bool false) rfl (by kernel_rfl) (by kernel_rfl) (by kernel_rfl) (fun _ _ _ h => h) (Or.inl ⟨by kernel_rfl, fun w hSw => by go_simp⟩) (by assumption) ?_
                  simp only [Act.put, lTA, lC0, lCS]
                  refine wpAnyH_take (i := 48) (oi := ⟨some 132, _, _, _, _, _⟩) (v := .agg #[.slice (some ⟨ig, ioff, none⟩) n cap, .slice OA no ocap, .slice MA k mcap]) rfl (by kernel_rfl) (by kernel_rfl) (by kernel_rfl) (fun _ _ _ h => h) (Or.inl ⟨by kernel_rfl, fun w hSw => by go_simp⟩) (by assumption) ?_
                  simp only [Act.put, lTA, lC0, lCS]
                  refine wpAnyH_take (i := 49) (oi := ⟨some 133, _, _, _, _, _⟩) (v := .agg #[.int .i64 xn, .bool false, .slice EA 0 ecap, .string dat]) rfl (by kernel_rfl) (by kernel_rfl) (by kernel_rfl) (fun _ _ _ h => h) (Or.inl ⟨by kernel_rfl, fun w hSw => by go_simp⟩) (by assumption) ?_
                  simp only [Act.put, lTA, lC0, lCS]
                  refine wpAnyH_ready (rs := [50]) (by kernel_rfl) (by simp) ?_
                  refine AllReadyH.cons rfl (fun K hK => ?_) AllReadyH.nil
                  go_simp
                  refine (HEC.out w2 (HSW.out.keep (Below.trans (b := W1.drewN 1) ⟨rfl, rfl, rfl, Nat.le_refl _, fun _ _ => rfl⟩ hB2))).mono ?_
                  rintro e w3 ⟨⟨b, rfl⟩, hB3⟩
                  show K _ _
                  refine hK.out _ _ (⟨(hB3.cell (World.block_lt_of_cell? _ _ hHeld.1)).trans hHeld.1, (hB3.cell (World.block_lt_of_cell? _ _ hHeld.2.1)).trans hHeld.2.1, (hB3.cell (World.block_lt_of_cell? _ _ hHeld.2.2.1)).trans hHeld.2.2.1, (hB3.cell (World.block_lt_of_cell? _ _ hHeld.2.2.2.1)).trans hHeld.2.2.2.1, (hB3.cell (World.block_lt_of_cell? _ _ hHeld.2.2.2.2.1)).trans hHeld.2.2.2.2.1, (hB3.cell (World.block_lt_of_cell? _ _ hHeld.2.2.2.2.2.1)).trans hHeld.2.2.2.2.2.1, (hB3.cell (World.block_lt_of_cell? _ _ hHeld.2.2.2.2.2.2.1)).trans hHeld.2.2.2.2.2.2.1, (hB3.cell (World.block_lt_of_cell? _ _ hHeld.2.2.2.2.2.2.2)).trans hHeld.2.2.2.2.2.2.2⟩) (fun hHeld => ?_)
                  clear hK K
                  refine wpAnyH_take (i := 51) (oi := ⟨some 135, _, _, _, _, _⟩) (v := .bool (!b)) rfl (by kernel_rfl) (by kernel_rfl) (by kernel_rfl) (fun _ _ _ h => h) (Or.inl ⟨by kernel_rfl, fun w hSw => by go_simp⟩) (by assumption) ?_
                  simp only [Act.put, lTA, lC0, lCS]
                  refine wpAnyH_take (i := 52) (oi := ⟨some 136, _, _, _, _, _⟩) (v := .bool (!b)) rfl (by kernel_rfl) (by kernel_rfl) (by kernel_rfl) (fun _ _ _ h => h) (Or.inl ⟨by kernel_rfl, fun w hSw => by go_simp⟩) (by assumption) ?_
                  simp only [Act.put, lTA, lC0, lCS]
                  refine wpAnyH_done (by kernel_rfl) ?_ _
                  go_wp2_with (fail)
                  go_meet
                  case rel => exact ⟨_, rfl, Below.trans (b := W1.drewN 1) ⟨rfl, rfl, rfl, Nat.le_refl _, fun _ _ => rfl⟩ (hB2.trans (hB3.mono hB2.size))⟩
              · obtain rfl : k' = 0 := by omega
                rcases bool_tf dr with rfl | rfl
                · obtain rfl := HD1.out rfl
                  refine wp_region_held_drew (S := fun w' => w'.cell? ⟨p, 0, none⟩ = some (.slice (some ⟨ig, ioff, none⟩) n cap) ∧ w'.cell? ⟨p, 1, none⟩ = some (.slice OA no ocap) ∧ w'.cell? ⟨p, 2, none⟩ = some (.slice MA k mcap) ∧ w'.cell? ⟨xb, 0, none⟩ = some (.int .i64 xn) ∧ w'.cell? ⟨xb, 1, none⟩ = some (.bool true) ∧ w'.cell? ⟨xb, 2, none⟩ = some (.slice EA ne ecap) ∧ w'.cell? ⟨xb, 3, none⟩ = some (.string ⟨#[]⟩)) (by kernel_rfl) (⟨p0, p1, p2, x0, x1, x2, x3⟩) (fun hHeld => ?_)
                  refine wpAnyH_take (i := 0) (oi := ⟨some 84, _, _, _, _, _⟩) (v := .int .i64 0) rfl (by kernel_rfl) (by kernel_rfl) (by kernel_rfl) (fun _ _ _ h => h) (Or.inl ⟨by kernel_rfl, fun w hSw => by go_simp⟩) (by assumption) ?_
                  simp only [Act.put, lTA, lC0, lCS]
                  refine wpAnyH_take (i := 1) (oi := ⟨some 85, _, _, _, _, _⟩) (v := .bool false) rfl (by kernel_rfl) (by kernel_rfl) (by kernel_rfl) (fun _ _ _ h => h) (Or.inl ⟨by kernel_rfl, fun w hSw => by go_simp⟩) (by assumption) ?_
                  simp only [Act.put, lTA, lC0, lCS]
                  refine wpAnyH_take (i := 2) (oi := ⟨some 86, _, _, _, _, _⟩) (v := .bool false) rfl (by kernel_rfl) (by kernel_rfl) (by kernel_rfl) (fun _ _ _ h => h) (Or.inl ⟨by kernel_rfl, fun w hSw => by go_simp⟩) (by assumption) ?_
                  simp only [Act.put, lTA, lC0, lCS]
                  refine wpAnyH_take (i := 3) (oi := ⟨some 87, _, _, _, _, _⟩) (v := undef) rfl (by kernel_rfl) (by kernel_rfl) (by kernel_rfl) (fun _ _ _ h => h) (Or.inr ⟨by kernel_rfl, rfl⟩) (by assumption) ?_
                  simp only [Act.put, lTA, lC0, lCS]
                  refine wpAnyH_take (i := 4) (oi := ⟨some 88, _, _, _, _, _⟩) (v := undef) rfl (by kernel_rfl) (by kernel_rfl) (by kernel_rfl) (fun _ _ _ h => h) (Or.inr ⟨by kernel_rfl, rfl⟩) (by assumption) ?_
                  simp only [Act.put, lTA, lC0, lCS]
                  refine wpAnyH_take (i := 5) (oi := ⟨some 89, _, _, _, _, _⟩) (v := undef) rfl (by kernel_rfl) (by kernel_rfl) (by kernel_rfl) (fun _ _ _ h => h) (Or.inr ⟨by kernel_rfl, rfl⟩) (by assumption) ?_
                  simp only [Act.put, lTA, lC0, lCS]
                  refine wpAnyH_take (i := 6) (oi := ⟨some 90, _, _, _, _, _⟩) (v := undef) rfl (by kernel_rfl) (by kernel_rfl) (by kernel_rfl) (fun _ _ _ h => h) (Or.inr ⟨by kernel_rfl, rfl⟩) (by assumption) ?_
                  simp only [Act.put, lTA, lC0, lCS]
                  refine wpAnyH_take (i := 7) (oi := ⟨some 91, _, _, _, _, _⟩) (v := undef) rfl (by kernel_rfl) (by kernel_rfl) (by kernel_rfl) (fun _ _ _ h => h) (Or.inr ⟨by kernel_rfl, rfl⟩) (by assumption) ?_
                  simp only [Act.put, lTA, lC0, lCS]
                  refine wpAnyH_take (i := 8) (oi := ⟨some 92, _, _, _, _, _⟩) (v := undef) rfl (by kernel_rfl) (by kernel_rfl) (by kernel_rfl) (fun _ _ _ h => h) (Or.inr ⟨by kernel_rfl, rfl⟩) (by assumption) ?_
                  simp only [Act.put, lTA, lC0, lCS]
                  refine wpAnyH_take (i := 9) (oi := ⟨some 93, _, _, _, _, _⟩) (v := undef) rfl (by kernel_rfl) (by kernel_rfl) (by kernel_rfl) (fun _ _ _ h => h) (Or.inr ⟨by kernel_rfl, rfl⟩) (by assumption) ?_
                  simp only [Act.put, lTA, lC0, lCS]
                  refine wpAnyH_take (i := 10) (oi := ⟨some 94, _, _, _, _, _⟩) (v := undef) rfl (by kernel_rfl) (by kernel_rfl) (by kernel_rfl) (fun _ _ _ h => h) (Or.inr ⟨by kernel_rfl, rfl⟩) (by assumption) ?_
                  simp only [Act.put, lTA, lC0, lCS]
                  refine wpAnyH_take (i := 11) (oi := ⟨some 95, _, _, _, _, _⟩) (v := undef) rfl (by kernel_rfl) (by kernel_rfl) (by kernel_rfl) (fun _ _ _ h => h) (Or.inr ⟨by kernel_rfl, rfl⟩) (by assumption) ?_
                  simp only [Act.put, lTA, lC0, lCS]
                  refine wpAnyH_take (i := 12) (oi := ⟨some 96, _, _, _, _, _⟩) (v := undef) rfl (by kernel_rfl) (by kernel_rfl) (by kernel_rfl) (fun _ _ _ h => h) (Or.inr ⟨by kernel_rfl, rfl⟩) (by assumption) ?_
                  simp only [Act.put, lTA, lC0, lCS]
                  refine wpAnyH_take (i := 13) (oi := ⟨some 97, _, _, _, _, _⟩) (v := undef) rfl (by kernel_rfl) (by kernel_rfl) (by kernel_rfl) (fun _ _ _ h => h) (Or.inr ⟨by kernel_rfl, rfl⟩) (by assumption) ?_
                  simp only [Act.put, lTA, lC0, lCS]
                  refine wpAnyH_take (i := 14) (oi := ⟨some 98, _, _, _, _, _⟩) (v := undef) rfl (by kernel_rfl) (by kernel_rfl) (by kernel_rfl) (fun _ _ _ h => h) (Or.inr ⟨by kernel_rfl, rfl⟩) (by assumption) ?_
                  simp only [Act.put, lTA, lC0, lCS]
                  refine wpAnyH_take (i := 15) (oi := ⟨some 99, _, _, _, _, _⟩) (v := undef) rfl (by kernel_rfl) (by kernel_rfl) (by kernel_rfl) (fun _ _ _ h => h) (Or.inr ⟨by kernel_rfl, rfl⟩) (by assumption) ?_
                  simp only [Act.put, lTA, lC0, lCS]
                  refine wpAnyH_take (i := 16) (oi := ⟨some 100, _, _, _, _, _⟩) (v := undef) rfl (by kernel_rfl) (by kernel_rfl) (by kernel_rfl) (fun _ _ _ h => h) (Or.inr ⟨by kernel_rfl, rfl⟩) (by assumption) ?_
                  simp only [Act.put, lTA, lC0, lCS]
                  refine wpAnyH_take (i := 17) (oi := ⟨some 101, _, _, _, _, _⟩) (v := undef) rfl (by kernel_rfl) (by kernel_rfl) (by kernel_rfl) (fun _ _ _ h => h) (Or.inr ⟨by kernel_rfl, rfl⟩) (by assumption) ?_
                  simp only [Act.put, lTA, lC0, lCS]
                  refine wpAnyH_take (i := 18) (oi := ⟨some 102, _, _, _, _, _⟩) (v := undef) rfl (by kernel_rfl) (by kernel_rfl) (by kernel_rfl) (fun _ _ _ h => h) (Or.inr ⟨by kernel_rfl, rfl⟩) (by assumption) ?_
                  simp only [Act.put, lTA, lC0, lCS]
                  refine wpAnyH_take (i := 19) (oi := ⟨some 103, _, _, _, _, _⟩) (v := undef) rfl (by kernel_rfl) (by kernel_rfl) (by kernel_rfl) (fun _ _ _ h => h) (Or.inr ⟨by kernel_rfl, rfl⟩) (by assumption) ?_
                  simp only [Act.put, lTA, lC0, lCS]
                  refine wpAnyH_take (i := 20) (oi := ⟨some 104, _, _, _, _, _⟩) (v := .bool false) rfl (by kernel_rfl) (by kernel_rfl) (by kernel_rfl) (fun _ _ _ h => h) (Or.inl ⟨by kernel_rfl, fun w hSw => by go_simp⟩) (by assumption) ?_
                  simp only [Act.put, lTA, lC0, lCS]
                  refine wpAnyH_take (i := 21) (oi := ⟨some 105, _, _, _, _, _⟩) (v := .bool false) rfl (by kernel_rfl) (by kernel_rfl) (by kernel_rfl) (fun _ _ _ h => h) (Or.inl ⟨by kernel_rfl, fun w hSw => by go_simp⟩) (by assumption) ?_
                  simp only [Act.put, lTA, lC0, lCS]
                  refine wpAnyH_take (i := 22) (oi := ⟨some 106, _, _, _, _, _⟩) (v := .pointer (some ⟨xb, 3, none⟩)) rfl (by kernel_rfl) (by kernel_rfl) (by kernel_rfl) (fun _ _ _ h => h) (Or.inl ⟨by kernel_rfl, fun w hSw => by go_simp⟩) (by assumption) ?_
                  simp only [Act.put, lTA, lC0, lCS]
                  refine wpAnyH_take (i := 23) (oi := ⟨some 107, _, _, _, _, _⟩) (v := .string ⟨#[]⟩) rfl (by kernel_rfl) (by kernel_rfl) (by kernel_rfl) (fun _ _ _ h => h) (Or.inl ⟨by kernel_rfl, fun w hSw => by go_simp⟩) (by assumption) ?_
                  simp only [Act.put, lTA, lC0, lCS]
                  refine wpAnyH_take (i := 24) (oi := ⟨some 108, _, _, _, _, _⟩) (v := .int .i64 0) rfl (by kernel_rfl) (by kernel_rfl) (by kernel_rfl) (fun _ _ _ h => h) (Or.inl ⟨by kernel_rfl, fun w hSw => by go_simp⟩) (by assumption) ?_
                  simp only [Act.put, lTA, lC0, lCS]
                  refine wpAnyH_take (i := 25) (oi := ⟨some 109, _, _, _, _, _⟩) (v := .bool false) rfl (by kernel_rfl) (by kernel_rfl) (by kernel_rfl) (fun _ _ _ h => h) (Or.inl ⟨by kernel_rfl, fun w hSw => by go_simp⟩) (by assumption) ?_
                  simp only [Act.put, lTA, lC0, lCS]
                  refine wpAnyH_take (i := 26) (oi := ⟨some 110, _, _, _, _, _⟩) (v := .bool false) rfl (by kernel_rfl) (by kernel_rfl) (by kernel_rfl) (fun _ _ _ h => h) (Or.inl ⟨by kernel_rfl, fun w hSw => by go_simp⟩) (by assumption) ?_
                  simp only [Act.put, lTA, lC0, lCS]
                  refine wpAnyH_take (i := 27) (oi := ⟨some 111, _, _, _, _, _⟩) (v := .bool false) rfl (by kernel_rfl) (by kernel_rfl) (by kernel_rfl) (fun _ _ _ h => h) (Or.inl ⟨by kernel_rfl, fun w hSw => by go_simp⟩) (by assumption) ?_
                  simp only [Act.put, lTA, lC0, lCS]
                  refine wpAnyH_take (i := 28) (oi := ⟨some 112, _, _, _, _, _⟩) (v := .pointer (some ⟨xb, 1, none⟩)) rfl (by kernel_rfl) (by kernel_rfl) (by kernel_rfl) (fun _ _ _ h => h) (Or.inl ⟨by kernel_rfl, fun w hSw => by go_simp⟩) (by assumption) ?_
                  simp only [Act.put, lTA, lC0, lCS]
                  refine wpAnyH_take (i := 29) (oi := ⟨some 113, _, _, _, _, _⟩) (v := .bool true) rfl (by kernel_rfl) (by kernel_rfl) (by kernel_rfl) (fun _ _ _ h => h) (Or.inl ⟨by kernel_rfl, fun w hSw => by go_simp⟩) (by assumption) ?_
                  simp only [Act.put, lTA, lC0, lCS]
                  refine wpAnyH_take (i := 30) (oi := ⟨some 114, _, _, _, _, _⟩) (v := .bool true) rfl (by kernel_rfl) (by kernel_rfl) (by kernel_rfl) (fun _ _ _ h => h) (Or.inl ⟨by kernel_rfl, fun w hSw => by go_simp⟩) (by assumption) ?_
                  simp only [Act.put, lTA, lC0, lCS]
                  refine wpAnyH_take (i := 31) (oi := ⟨some 115, _, _, _, _, _⟩) (v := .pointer (some ⟨xb, 3, none⟩)) rfl (by kernel_rfl) (by kernel_rfl) (by kernel_rfl) (fun _ _ _ h => h) (Or.inl ⟨by kernel_rfl, fun w hSw => by go_simp⟩) (by assumption) ?_
                  simp only [Act.put, lTA, lC0, lCS]
                  refine wpAnyH_take (i := 32) (oi := ⟨some 116, _, _, _, _, _⟩) (v := .string ⟨#[]⟩) rfl (by kernel_rfl) (by kernel_rfl) (by kernel_rfl) (fun _ _ _ h => h) (Or.inl ⟨by kernel_rfl, fun w hSw => by go_simp⟩) (by assumption) ?_
                  simp only [Act.put, lTA, lC0, lCS]
                  refine wpAnyH_take (i := 33) (oi := ⟨some 117, _, _, _, _, _⟩) (v := .bool false) rfl (by kernel_rfl) (by kernel_rfl) (by kernel_rfl) (fun _ _ _ h => h) (Or.inl ⟨by kernel_rfl, fun w hSw => by go_simp⟩) (by assumption) ?_
                  simp only [Act.put, lTA, lC0, lCS]
                  refine wpAnyH_take (i := 34) (oi := ⟨some 118, _, _, _, _, _⟩) (v := .bool false) rfl (by kernel_rfl) (by kernel_rfl) (by kernel_rfl) (fun _ _ _ h => h) (Or.inl ⟨by kernel_rfl, fun w hSw => by go_simp⟩) (by assumption) ?_
                  simp only [Act.put, lTA, lC0, lCS]
                  refine wpAnyH_take (i := 35) (oi := ⟨some 119, _, _, _, _, _⟩) (v := .bool false) rfl (by kernel_rfl) (by kernel_rfl) (by kernel_rfl) (fun _ _ _ h => h) (Or.inl ⟨by kernel_rfl, fun w hSw => by go_simp⟩) (by assumption) ?_
                  simp only [Act.put, lTA, lC0, lCS]
                  refine wpAnyH_take (i := 36) (oi := ⟨some 120, _, _, _, _, _⟩) (v := .bool false) rfl (by kernel_rfl) (by kernel_rfl) (by kernel_rfl) (fun _ _ _ h => h) (Or.inl ⟨by kernel_rfl, fun w hSw => by go_simp⟩) (by assumption) ?_
                  simp only [Act.put, lTA, lC0, lCS]
                  refine wpAnyH_take (i := 37) (oi := ⟨some 121, _, _, _, _, _⟩) (v := .pointer (some ⟨xb, 1, none⟩)) rfl (by kernel_rfl) (by kernel_rfl) (by kernel_rfl) (fun _ _ _ h => h) (Or.inl ⟨by kernel_rfl, fun w hSw => by go_simp⟩) (by assumption) ?_
                  simp only [Act.put, lTA, lC0, lCS]
                  refine wpAnyH_take (i := 38) (oi := ⟨some 122, _, _, _, _, _⟩) (v := .bool true) rfl (by kernel_rfl) (by kernel_rfl) (by kernel_rfl) (fun _ _ _ h => h) (Or.inl ⟨by kernel_rfl, fun w hSw => by go_simp⟩) (by assumption) ?_
                  simp only [Act.put, lTA, lC0, lCS]
                  refine wpAnyH_take (i := 39) (oi := ⟨some 123, _, _, _, _, _⟩) (v := .bool false) rfl (by kernel_rfl) (by kernel_rfl) (by kernel_rfl) (fun _ _ _ h => h) (Or.inl ⟨by kernel_rfl, fun w hSw => by go_simp⟩) (by assumption) ?_
                  simp only [Act.put, lTA, lC0, lCS]
                  refine wpAnyH_take (i := 40) (oi := ⟨some 124, _, _, _, _, _⟩) (v := .bool false) rfl (by kernel_rfl) (by kernel_rfl) (by kernel_rfl) (fun _ _ _ h => h) (Or.inl ⟨by kernel_rfl, fun w hSw => by go_simp⟩) (by assumption) ?_
                  simp only [Act.put, lTA, lC0, lCS]
                  refine wpAnyH_take (i := 41) (oi := ⟨some 125, _, _, _, _, _⟩) (v := undef) rfl (by kernel_rfl) (by kernel_rfl) (by kernel_rfl) (fun _ _ _ h => h) (Or.inr ⟨by kernel_rfl, rfl⟩) (by assumption) ?_
                  simp only [Act.put, lTA, lC0, lCS]
                  refine wpAnyH_take (i := 42) (oi := ⟨some 126, _, _, _, _, _⟩) (v := undef) rfl (by kernel_rfl) (by kernel_rfl) (by kernel_rfl) (fun _ _ _ h => h) (Or.inr ⟨by kernel_rfl, rfl⟩) (by assumption) ?_
                  simp only [Act.put, lTA, lC0, lCS]
                  refine wpAnyH_take (i := 43) (oi := ⟨some 127, _, _, _, _, _⟩) (v := undef) rfl (by kernel_rfl) (by kernel_rfl) (by kernel_rfl) (fun _ _ _ h => h) (Or.inr ⟨by kernel_rfl, rfl⟩) (by assumption) ?_
                  simp only [Act.put, lTA, lC0, lCS]
                  refine wpAnyH_take (i := 44) (oi := ⟨some 128, _, _, _, _, _⟩) (v := undef) rfl (by kernel_rfl) (by kernel_rfl) (by kernel_rfl) (fun _ _ _ h => h) (Or.inr ⟨by kernel_rfl, rfl⟩) (by assumption) ?_
                  simp only [Act.put, lTA, lC0, lCS]
                  refine wpAnyH_take (i := 45) (oi := ⟨some 129, _, _, _, _, _⟩) (v := .bool false) rfl (by kernel_rfl) (by kernel_rfl) (by kernel_rfl) (fun _ _ _ h => h) (Or.inl ⟨by kernel_rfl, fun w hSw => by go_simp⟩) (by assumption) ?_
                  simp only [Act.put, lTA, lC0, lCS]
                  refine wpAnyH_take (i := 46) (oi := ⟨some 130, _, _, _, _, _⟩) (v := .bool false) rfl (by kernel_rfl) (by kernel_rfl) (by kernel_rfl) (fun _ _ _ h => h) (Or.inl ⟨by kernel_rfl, fun w hSw => by go_simp⟩) (by assumption) ?_
                  simp only [Act.put, lTA, lC0, lCS]
                  refine wpAnyH_take (i := 47) (oi := ⟨some 131, _, _, _, _, _⟩) (v := .bool false) rfl (by kernel_rfl) (by kernel_rfl) (by kernel_rfl) (fun _ _ _ h => h) (Or.inl ⟨by kernel_rfl, fun w hSw => by go_simp⟩) (by assumption) ?_
                  simp only [Act.put, lTA, lC0, lCS]
                  refine wpAnyH_take (i := 48) (oi := ⟨some 132, _, _, _, _, _⟩) (v := .agg #[.slice (some ⟨ig, ioff, none⟩) n cap, .slice OA no ocap, .slice MA k mcap]) rfl (by kernel_rfl) (by kernel_rfl) (by kernel_rfl) (fun _ _ _ h => h) (Or.inl ⟨by kernel_rfl, fun w hSw => by go_simp⟩) (by assumption) ?_
                  simp only [Act.put, lTA, lC0, lCS]
                  refine wpAnyH_take (i := 49) (oi := ⟨some 133, _, _, _, _, _⟩) (v := .agg #[.int .i64 xn, .bool true, .slice EA ne ecap, .string ⟨#[]⟩]) rfl (by kernel_rfl) (by kernel_rfl) (by kernel_rfl) (fun _ _ _ h => h) (Or.inl ⟨by kernel_rfl, fun w hSw => by go_simp⟩) (by assumption) ?_
                  simp only [Act.put, lTA, lC0, lCS]
                  refine wpAnyH_ready (rs := [50]) (by kernel_rfl) (by simp) ?_
                  refine AllReadyH.cons rfl (fun K hK => ?_) AllReadyH.nil
                  go_simp
                  refine (HEC.out W1.drew (HSW.out.keep (show Below W1.heap.size W1 W1.drew from ⟨rfl, rfl, rfl, Nat.le_refl _, fun _ _ => rfl⟩))).mono ?_
                  rintro e w3 ⟨⟨b, rfl⟩, hB3⟩
                  show K _ _
                  refine hK.out _ _ (⟨(hB3.cell (World.block_lt_of_cell? _ _ hHeld.1)).trans hHeld.1, (hB3.cell (World.block_lt_of_cell? _ _ hHeld.2.1)).trans hHeld.2.1, (hB3.cell (World.block_lt_of_cell? _ _ hHeld.2.2.1)).trans hHeld.2.2.1, (hB3.cell (World.block_lt_of_cell? _ _ hHeld.2.2.2.1)).trans hHeld.2.2.2.1, (hB3.cell (World.block_lt_of_cell? _ _ hHeld.2.2.2.2.1)).trans hHeld.2.2.2.2.1, (hB3.cell (World.block_lt_of_cell? _ _ hHeld.2.2.2.2.2.1)).trans hHeld.2.2.2.2.2.1, (hB3.cell (World.block_lt_of_cell? _ _ hHeld.2.2.2.2.2.2)).trans hHeld.2.2.2.2.2.2⟩) (fun hHeld => ?_)
                  clear hK K
                  refine wpAnyH_take (i := 51) (oi := ⟨some 135, _, _, _, _, _⟩) (v := .bool (!b)) rfl (by kernel_rfl) (by kernel_rfl) (by kernel_rfl) (fun _ _ _ h => h) (Or.inl ⟨by kernel_rfl, fun w hSw => by go_simp⟩) (by assumption) ?_
                  simp only [Act.put, lTA, lC0, lCS]
                  refine wpAnyH_take (i := 52) (oi := ⟨some 136, _, _, _, _, _⟩) (v := .bool (!b)) rfl (by kernel_rfl) (by kernel_rfl) (by kernel_rfl) (fun _ _ _ h => h) (Or.inl ⟨by kernel_rfl, fun w hSw => by go_simp⟩) (by assumption) ?_
                  simp only [Act.put, lTA, lC0, lCS]
                  refine wpAnyH_done (by kernel_rfl) ?_ _
                  go_wp2_with (fail)
                  go_meet
                  case rel => exact ⟨_, rfl, Below.trans (b := W1.drew) ⟨rfl, rfl, rfl, Nat.le_refl _, fun _ _ => rfl⟩ hB3⟩
                · obtain rfl := HD2.out rfl
                  refine wp_region_held_drew (S := fun w' => w'.cell? ⟨p, 0, none⟩ = some (.slice (some ⟨ig, ioff, none⟩) n cap) ∧ w'.cell? ⟨p, 1, none⟩ = some (.slice OA no ocap) ∧ w'.cell? ⟨p, 2, none⟩ = some (.slice MA k mcap) ∧ w'.cell? ⟨xb, 0, none⟩ = some (.int .i64 xn) ∧ w'.cell? ⟨xb, 1, none⟩ = some (.bool false) ∧ w'.cell? ⟨xb, 2, none⟩ = some (.slice EA 0 ecap) ∧ w'.cell? ⟨xb, 3, none⟩ = some (.string dat)) (by kernel_rfl) (⟨p0, p1, p2, x0, x1, x2, x3⟩) (fun hHeld => ?_)
                  refine wpAnyH_take (i := 0) (oi := ⟨some 84, _, _, _, _, _⟩) (v := .int .i64 0) rfl (by kernel_rfl) (by kernel_rfl) (by kernel_rfl) (fun _ _ _ h => h) (Or.inl ⟨by kernel_rfl, fun w hSw => by go_simp⟩) (by assumption) ?_
                  simp only [Act.put, lTA, lC0, lCS]
                  refine wpAnyH_take (i := 1) (oi := ⟨some 85, _, _, _, _, _⟩) (v := .bool false) rfl (by kernel_rfl) (by kernel_rfl) (by kernel_rfl) (fun _ _ _ h => h) (Or.inl ⟨by kernel_rfl, fun w hSw => by go_simp⟩) (by assumption) ?_
                  simp only [Act.put, lTA, lC0, lCS]
                  refine wpAnyH_take (i := 2) (oi := ⟨some 86, _, _, _, _, _⟩) (v := .bool false) rfl (by kernel_rfl) (by kernel_rfl) (by kernel_rfl) (fun _ _ _ h => h) (Or.inl ⟨by kernel_rfl, fun w hSw => by go_simp⟩) (by assumption) ?_
                  simp only [Act.put, lTA, lC0, lCS]
                  refine wpAnyH_take (i := 3) (oi := ⟨some 87, _, _, _, _, _⟩) (v := undef) rfl (by kernel_rfl) (by kernel_rfl) (by kernel_rfl) (fun _ _ _ h => h) (Or.inr ⟨by kernel_rfl, rfl⟩) (by assumption) ?_
                  simp only [Act.put, lTA, lC0, lCS]
                  refine wpAnyH_take (i := 4) (oi := ⟨some 88, _, _, _, _, _⟩) (v := undef) rfl (by kernel_rfl) (by kernel_rfl) (by kernel_rfl) (fun _ _ _ h => h) (Or.inr ⟨by kernel_rfl, rfl⟩) (by assumption) ?_
                  simp only [Act.put, lTA, lC0, lCS]
                  refine wpAnyH_take (i := 5) (oi := ⟨some 89, _, _, _, _, _⟩) (v := undef) rfl (by kernel_rfl) (by kernel_rfl) (by kernel_rfl) (fun _ _ _ h => h) (Or.inr ⟨by kernel_rfl, rfl⟩) (by assumption) ?_
                  simp only [Act.put, lTA, lC0, lCS]
                  refine wpAnyH_take (i := 6) (oi := ⟨some 90, _, _, _, _, _⟩) (v := undef) rfl (by kernel_rfl) (by kernel_rfl) (by kernel_rfl) (fun _ _ _ h => h) (Or.inr ⟨by kernel_rfl, rfl⟩) (by assumption) ?_
                  simp only [Act.put, lTA, lC0, lCS]
                  refine wpAnyH_take (i := 7) (oi := ⟨some 91, _, _, _, _, _⟩) (v := undef) rfl (by kernel_rfl) (by kernel_rfl) (by kernel_rfl) (fun _ _ _ h => h) (Or.inr ⟨by kernel_rfl, rfl⟩) (by assumption) ?_
                  simp only [Act.put, lTA, lC0, lCS]
                  refine wpAnyH_take (i := 8) (oi := ⟨some 92, _, _, _, _, _⟩) (v := undef) rfl (by kernel_rfl) (by kernel_rfl) (by kernel_rfl) (fun _ _ _ h => h) (Or.inr ⟨by kernel_rfl, rfl⟩) (by assumption) ?_
                  simp only [Act.put, lTA, lC0, lCS]
                  refine wpAnyH_take (i := 9) (oi := ⟨some 93, _, _, _, _, _⟩) (v := undef) rfl (by kernel_rfl) (by kernel_rfl) (by kernel_rfl) (fun _ _ _ h => h) (Or.inr ⟨by kernel_rfl, rfl⟩) (by assumption) ?_
                  simp only [Act.put, lTA, lC0, lCS]
                  refine wpAnyH_take (i := 10) (oi := ⟨some 94, _, _, _, _, _⟩) (v := undef) rfl (by kernel_rfl) (by kernel_rfl) (by kernel_rfl) (fun _ _ _ h => h) (Or.inr ⟨by kernel_rfl, rfl⟩) (by assumption) ?_
                  simp only [Act.put, lTA, lC0, lCS]
                  refine wpAnyH_take (i := 11) (oi := ⟨some 95, _, _, _, _, _⟩) (v := undef) rfl (by kernel_rfl) (by kernel_rfl) (by kernel_rfl) (fun _ _ _ h => h) (Or.inr ⟨by kernel_rfl, rfl⟩) (by assumption) ?_
                  simp only [Act.put, lTA, lC0, lCS]
                  refine wpAnyH_take (i := 12) (oi := ⟨some 96, _, _, _, _, _⟩) (v := undef) rfl (by kernel_rfl) (by kernel_rfl) (by kernel_rfl) (fun _ _ _ h => h) (Or.inr ⟨by kernel_rfl, rfl⟩) (by assumption) ?_
                  simp only [Act.put, lTA, lC0, lCS]
                  refine wpAnyH_take (i := 13) (oi := ⟨some 97, _, _, _, _, _⟩) (v := undef) rfl (by kernel_rfl) (by kernel_rfl) (by kernel_rfl) (fun _ _ _ h => h) (Or.inr ⟨by kernel_rfl, rfl⟩) (by assumption) ?_
                  simp only [Act.put, lTA, lC0, lCS]
                  refine wpAnyH_take (i := 14) (oi := ⟨some 98, _, _, _, _, _⟩) (v := undef) rfl (by kernel_rfl) (by kernel_rfl) (by kernel_rfl) (fun _ _ _ h => h) (Or.inr ⟨by kernel_rfl, rfl⟩) (by assumption) ?_
                  simp only [Act.put, lTA, lC0, lCS]
                  refine wpAnyH_take (i := 15) (oi := ⟨some 99, _, _, _, _, _⟩) (v := undef) rfl (by kernel_rfl) (by kernel_rfl) (by kernel_rfl) (fun _ _ _ h => h) (Or.inr ⟨by kernel_rfl, rfl⟩) (by assumption) ?_
                  simp only [Act.put, lTA, lC0, lCS]
                  refine wpAnyH_take (i := 16) (oi := ⟨some 100, _, _, _, _, _⟩) (v := undef) rfl (by kernel_rfl) (by kernel_rfl) (by kernel_rfl) (fun _ _ _ h => h) (Or.inr ⟨by kernel_rfl, rfl⟩) (by assumption) ?_
                  simp only [Act.put, lTA, lC0, lCS]
                  refine wpAnyH_take (i := 17) (oi := ⟨some 101, _, _, _, _, _⟩) (v := undef) rfl (by kernel_rfl) (by kernel_rfl) (by kernel_rfl) (fun _ _ _ h => h) (Or.inr ⟨by kernel_rfl, rfl⟩) (by assumption) ?_
                  simp only [Act.put, lTA, lC0, lCS]
                  refine wpAnyH_take (i := 18) (oi := ⟨some 102, _, _, _, _, _⟩) (v := undef) rfl (by kernel_rfl) (by kernel_rfl) (by kernel_rfl) (fun _ _ _ h => h) (Or.inr ⟨by kernel_rfl, rfl⟩) (by assumption) ?_
                  simp only [Act.put, lTA, lC0, lCS]
                  refine wpAnyH_take (i := 19) (oi := ⟨some 103, _, _, _, _, _⟩) (v := undef) rfl (by kernel_rfl) (by kernel_rfl) (by kernel_rfl) (fun _ _ _ h => h) (Or.inr ⟨by kernel_rfl, rfl⟩) (by assumption) ?_
                  simp only [Act.put, lTA, lC0, lCS]
                  refine wpAnyH_take (i := 20) (oi := ⟨some 104, _, _, _, _, _⟩) (v := .bool false) rfl (by kernel_rfl) (by kernel_rfl) (by kernel_rfl) (fun _ _ _ h => h) (Or.inl ⟨by kernel_rfl, fun w hSw => by go_simp⟩) (by assumption) ?_
                  simp only [Act.put, lTA, lC0, lCS]
                  refine wpAnyH_take (i := 21) (oi := ⟨some 105, _, _, _, _, _⟩) (v := .bool false) rfl (by kernel_rfl) (by kernel_rfl) (by kernel_rfl) (fun _ _ _ h => h) (Or.inl ⟨by kernel_rfl, fun w hSw => by go_simp⟩) (by assumption) ?_
                  simp only [Act.put, lTA, lC0, lCS]
                  refine wpAnyH_take (i := 22) (oi := ⟨some 106, _, _, _, _, _⟩) (v := .pointer (some ⟨xb, 3, none⟩)) rfl (by kernel_rfl) (by kernel_rfl) (by kernel_rfl) (fun _ _ _ h => h) (Or.inl ⟨by kernel_rfl, fun w hSw => by go_simp⟩) (by assumption) ?_
                  simp only [Act.put, lTA, lC0, lCS]
                  refine wpAnyH_take (i := 23) (oi := ⟨some 107, _, _, _, _, _⟩) (v := .string dat) rfl (by kernel_rfl) (by kernel_rfl) (by kernel_rfl) (fun _ _ _ h => h) (Or.inl ⟨by kernel_rfl, fun w hSw => by go_simp⟩) (by assumption) ?_
                  simp only [Act.put, lTA, lC0, lCS]
                  refine wpAnyH_take (i := 24) (oi := ⟨some 108, _, _, _, _, _⟩) (v := .int .i64 dat.size) rfl (by kernel_rfl) (by kernel_rfl) (by kernel_rfl) (fun _ _ _ h => h) (Or.inl ⟨by kernel_rfl, fun w hSw => by go_simp⟩) (by assumption) ?_
                  simp only [Act.put, lTA, lC0, lCS]
                  refine wpAnyH_take (i := 25) (oi := ⟨some 109, _, _, _, _, _⟩) (v := .bool false) rfl (by kernel_rfl) (by kernel_rfl) (by kernel_rfl) (fun _ _ _ h => h) (Or.inl ⟨by kernel_rfl, fun w hSw => by go_simp⟩) (by assumption) ?_
                  simp only [Act.put, lTA, lC0, lCS]
                  refine wpAnyH_take (i := 26) (oi := ⟨some 110, _, _, _, _, _⟩) (v := .bool false) rfl (by kernel_rfl) (by kernel_rfl) (by kernel_rfl) (fun _ _ _ h => h) (Or.inl ⟨by kernel_rfl, fun w hSw => by go_simp⟩) (by assumption) ?_
                  simp only [Act.put, lTA, lC0, lCS]
                  refine wpAnyH_take (i := 27) (oi := ⟨some 111, _, _, _, _, _⟩) (v := .bool false) rfl (by kernel_rfl) (by kernel_rfl) (by kernel_rfl) (fun _ _ _ h => h) (Or.inl ⟨by kernel_rfl, fun w hSw => by go_simp⟩) (by assumption) ?_
                  simp only [Act.put, lTA, lC0, lCS]
                  refine wpAnyH_take (i := 28) (oi := ⟨some 112, _, _, _, _, _⟩) (v := .pointer (some ⟨xb, 1, none⟩)) rfl (by kernel_rfl) (by kernel_rfl) (by kernel_rfl) (fun _ _ _ h => h) (Or.inl ⟨by kernel_rfl, fun w hSw => by go_simp⟩) (by assumption) ?_
                  simp only [Act.put, lTA, lC0, lCS]
                  refine wpAnyH_take (i := 29) (oi := ⟨some 113, _, _, _, _, _⟩) (v := .bool false) rfl (by kernel_rfl) (by kernel_rfl) (by kernel_rfl) (fun _ _ _ h => h) (Or.inl ⟨by kernel_rfl, fun w hSw => by go_simp⟩) (by assumption) ?_
                  simp only [Act.put, lTA, lC0, lCS]
                  refine wpAnyH_take (i := 30) (oi := ⟨some 114, _, _, _, _, _⟩) (v := .bool false) rfl (by kernel_rfl) (by kernel_rfl) (by kernel_rfl) (fun _ _ _ h => h) (Or.inl ⟨by kernel_rfl, fun w hSw => by go_simp⟩) (by assumption) ?_
                  simp only [Act.put, lTA, lC0, lCS]
                  refine wpAnyH_take (i := 31) (oi := ⟨some 115, _, _, _, _, _⟩) (v := undef) rfl (by kernel_rfl) (by kernel_rfl) (by kernel_rfl) (fun _ _ _ h => h) (Or.inr ⟨by kernel_rfl, rfl⟩) (by assumption) ?_
                  simp only [Act.put, lTA, lC0, lCS]
                  refine wpAnyH_take (i := 32) (oi := ⟨some 116, _, _, _, _, _⟩) (v := undef) rfl (by kernel_rfl) (by kernel_rfl) (by kernel_rfl) (fun _ _ _ h => h) (Or.inr ⟨by kernel_rfl, rfl⟩) (by assumption) ?_
                  simp only [Act.put, lTA, lC0, lCS]
                  refine wpAnyH_take (i := 33) (oi := ⟨some 117, _, _, _, _, _⟩) (v := undef) rfl (by kernel_rfl) (by kernel_rfl) (by kernel_rfl) (fun _ _ _ h => h) (Or.inr ⟨by kernel_rfl, rfl⟩) (by assumption) ?_
                  simp only [Act.put, lTA, lC0, lCS]
                  refine wpAnyH_take (i := 34) (oi := ⟨some 118, _, _, _, _, _⟩) (v := .bool false) rfl (by kernel_rfl) (by kernel_rfl) (by kernel_rfl) (fun _ _ _ h => h) (Or.inl ⟨by kernel_rfl, fun w hSw => by go_simp⟩) (by assumption) ?_
                  simp only [Act.put, lTA, lC0, lCS]
                  refine wpAnyH_take (i := 35) (oi := ⟨some 119, _, _, _, _, _⟩) (v := .bool false) rfl (by kernel_rfl) (by kernel_rfl) (by kernel_rfl) (fun _ _ _ h => h) (Or.inl ⟨by kernel_rfl, fun w hSw => by go_simp⟩) (by assumption) ?_
                  simp only [Act.put, lTA, lC0, lCS]
                  refine wpAnyH_take (i := 36) (oi := ⟨some 120, _, _, _, _, _⟩) (v := .bool false) rfl (by kernel_rfl) (by kernel_rfl) (by kernel_rfl) (fun _ _ _ h => h) (Or.inl ⟨by kernel_rfl, fun w hSw => by go_simp⟩) (by assumption) ?_
                  simp only [Act.put, lTA, lC0, lCS]
                  refine wpAnyH_take (i := 37) (oi := ⟨some 121, _, _, _, _, _⟩) (v := .pointer (some ⟨xb, 1, none⟩)) rfl (by kernel_rfl) (by kernel_rfl) (by kernel_rfl) (fun _ _ _ h => h) (Or.inl ⟨by kernel_rfl, fun w hSw => by go_simp⟩) (by assumption) ?_
                  simp only [Act.put, lTA, lC0, lCS]
                  refine wpAnyH_take (i := 38) (oi := ⟨some 122, _, _, _, _, _⟩) (v := .bool false) rfl (by kernel_rfl) (by kernel_rfl) (by kernel_rfl) (fun _ _ _ h => h) (Or.inl ⟨by kernel_rfl, fun w hSw => by go_simp⟩) (by assumption) ?_
                  simp only [Act.put, lTA, lC0, lCS]
                  refine wpAnyH_take (i := 39) (oi := ⟨some 123, _, _, _, _, _⟩) (v := .bool true) rfl (by kernel_rfl) (by kernel_rfl) (by kernel_rfl) (fun _ _ _ h => h) (Or.inl ⟨by kernel_rfl, fun w hSw => by go_simp⟩) (by assumption) ?_
                  simp only [Act.put, lTA, lC0, lCS]
                  refine wpAnyH_take (i := 40) (oi := ⟨some 124, _, _, _, _, _⟩) (v := .bool true) rfl (by kernel_rfl) (by kernel_rfl) (by kernel_rfl) (fun _ _ _ h => h) (Or.inl ⟨by kernel_rfl, fun w hSw => by go_simp⟩) (by assumption) ?_
                  simp only [Act.put, lTA, lC0, lCS]
                  refine wpAnyH_take (i := 41) (oi := ⟨some 125, _, _, _, _, _⟩) (v := .pointer (some ⟨xb, 2, none⟩)) rfl (by kernel_rfl) (by kernel_rfl) (by kernel_rfl) (fun _ _ _ h => h) (Or.inl ⟨by kernel_rfl, fun w hSw => by go_simp⟩) (by assumption) ?_
                  simp only [Act.put, lTA, lC0, lCS]
                  refine wpAnyH_take (i := 42) (oi := ⟨some 126, _, _, _, _, _⟩) (v := .slice EA 0 ecap) rfl (by kernel_rfl) (by kernel_rfl) (by kernel_rfl) (fun _ _ _ h => h) (Or.inl ⟨by kernel_rfl, fun w hSw => by go_simp⟩) (by assumption) ?_
                  simp only [Act.put, lTA, lC0, lCS]
                  refine wpAnyH_take (i := 43) (oi := ⟨some 127, _, _, _, _, _⟩) (v := .int .i64 0) rfl (by kernel_rfl) (by kernel_rfl) (by kernel_rfl) (fun _ _ _ h => h) (Or.inl ⟨by kernel_rfl, fun w hSw => by go_simp⟩) (by assumption) ?_
                  simp only [Act.put, lTA, lC0, lCS]
                  refine wpAnyH_take (i := 44) (oi := ⟨some 128, _, _, _, _, _⟩) (v := .bool false) rfl (by kernel_rfl) (by kernel_rfl) (by kernel_rfl) (fun _ _ _ h => h) (Or.inl ⟨by kernel_rfl, fun w hSw => by go_simp⟩) (by assumption) ?_
                  simp only [Act.put, lTA, lC0, lCS]
                  refine wpAnyH_take (i := 45) (oi := ⟨some 129, _, _, _, _, _⟩) (v := .bool false) rfl (by kernel_rfl) (by kernel_rfl) (by kernel_rfl) (fun _ _ _ h => h) (Or.inl ⟨by kernel_rfl, fun w hSw => by go_simp⟩) (by assumption) ?_
                  simp only [Act.put, lTA, lC0, lCS]
                  refine wpAnyH_take (i := 46) (oi := ⟨some 130, _, _, _, _, _⟩) (v := .bool false) rfl (by kernel_rfl) (by kernel_rfl) (by kernel_rfl) (fun _ _ _ h => h) (Or.inl ⟨by kernel_rfl, fun w hSw => by go_simp⟩) (by assumption) ?_
                  simp only [Act.put, lTA, lC0, lCS]
                  refine wpAnyH_take (i := 47) (oi := ⟨some 131, _, _, _, _, _⟩) (v := .bool false) rfl (by kernel_rfl) (by kernel_rfl) (by kernel_rfl) (fun _ _ _ h => h) (Or.inl ⟨by kernel_rfl, fun w hSw => by go_simp⟩) (by assumption) ?_
                  simp only [Act.put, lTA, lC0, lCS]
                  refine wpAnyH_take (i := 48) (oi := ⟨some 132, _, _, _, _, _⟩) (v := .agg #[.slice (some ⟨ig, ioff, none⟩) n cap, .slice OA no ocap, .slice MA k mcap]) rfl (by kernel_rfl) (by kernel_rfl) (by kernel_rfl) (fun _ _ _ h => h) (Or.inl ⟨by kernel_rfl, fun w hSw => by go_simp⟩) (by assumption) ?_
                  simp only [Act.put, lTA, lC0, lCS]
                  refine wpAnyH_take (i := 49) (oi := ⟨some 133, _, _, _, _, _⟩) (v := .agg #[.int .i64 xn, .bool false, .slice EA 0 ecap, .string dat]) rfl (by kernel_rfl) (by kernel_rfl) (by kernel_rfl) (fun _ _ _ h => h) (Or.inl ⟨by kernel_rfl, fun w hSw => by go_simp⟩) (by assumption) ?_
                  simp only [Act.put, lTA, lC0, lCS]
                  refine wpAnyH_ready (rs := [50]) (by kernel_rfl) (by simp) ?_
                  refine AllReadyH.cons rfl (fun K hK => ?_) AllReadyH.nil
                  go_simp
                  refine (HEC.out W1.drew (HSW.out.keep (show Below W1.heap.size W1 W1.drew from ⟨rfl, rfl, rfl, Nat.le_refl _, fun _ _ => rfl⟩))).mono ?_
                  rintro e w3 ⟨⟨b, rfl⟩, hB3⟩
                  show K _ _
                  refine hK.out _ _ (⟨(hB3.cell (World.block_lt_of_cell? _ _ hHeld.1)).trans hHeld.1, (hB3.cell (World.block_lt_of_cell? _ _ hHeld.2.1)).trans hHeld.2.1, (hB3.cell (World.block_lt_of_cell? _ _ hHeld.2.2.1)).trans hHeld.2.2.1, (hB3.cell (World.block_lt_of_cell? _ _ hHeld.2.2.2.1)).trans hHeld.2.2.2.1, (hB3.cell (World.block_lt_of_cell? _ _ hHeld.2.2.2.2.1)).trans hHeld.2.2.2.2.1, (hB3.cell (World.block_lt_of_cell? _ _ hHeld.2.2.2.2.2.1)).trans hHeld.2.2.2.2.2.1, (hB3.cell (World.block_lt_of_cell? _ _ hHeld.2.2.2.2.2.2)).trans hHeld.2.2.2.2.2.2⟩) (fun hHeld => ?_)
                  clear hK K
                  refine wpAnyH_take (i := 51) (oi := ⟨some 135, _, _, _, _, _⟩) (v := .bool (!b)) rfl (by kernel_rfl) (by kernel_rfl) (by kernel_rfl) (fun _ _ _ h => h) (Or.inl ⟨by kernel_rfl, fun w hSw => by go_simp⟩) (by assumption) ?_
                  simp only [Act.put, lTA, lC0, lCS]
                  refine wpAnyH_take (i := 52) (oi := ⟨some 136, _, _, _, _, _⟩) (v := .bool (!b)) rfl (by kernel_rfl) (by kernel_rfl) (by kernel_rfl) (fun _ _ _ h => h) (Or.inl ⟨by kernel_rfl, fun w hSw => by go_simp⟩) (by assumption) ?_
                  simp only [Act.put, lTA, lC0, lCS]
                  refine wpAnyH_done (by kernel_rfl) ?_ _
                  go_wp2_with (fail)
                  go_meet
                  case rel => exact ⟨_, rfl, Below.trans (b := W1.drew) ⟨rfl, rfl, rfl, Nat.le_refl _, fun _ _ => rfl⟩ hB3⟩
            case rest =>
              obtain ⟨b, rfl, hbc⟩ := hcut
              have HBc := Lib.hid (HBX.out.trans (hbc.mono HBX.out.size))
              have HBp := Lib.hid (HB.out.trans (HBc.out.mono (Nat.le_of_lt HPL.out)))
              have HPc := Lib.hid (HPX.out.below hbc)
              have HFc := Lib.hid (HFX.out.below hbc)
              have HXc := Lib.hid (HX.out.below hbc)
              have HSc := Lib.hid (HSW.out.keep hbc)
              clear p0 p1 p2 x0 x1 x2 x3 hbc HX HPX HFX HBX HSW HIW HB HGV HRISE HEC HD1 HD2 HGV0 HEC0 HI
              rcases bool_tf b with rfl | rfl
              · go_wp2_with (fail)
                go_ret
                exact ⟨⟨_, rfl⟩, by rw [← HP.out]; exact HBp.out⟩
              · have HL1 := Lib.hid (HLC2.out wc HSc.out)
                have p0 : wc.cell? ⟨p, 0, none⟩ = some (.slice (some ⟨ig, ioff, none⟩) n cap) := HPc.out.cell 0
                have p1 : wc.cell? ⟨p, 1, none⟩ = some (.slice OA no ocap) := HPc.out.cell 1
                have p2 : wc.cell? ⟨p, 2, none⟩ = some (.slice MA k mcap) := HPc.out.cell 2
                have x0 : wc.cell? ⟨xb, 0, none⟩ = some (.int .i64 xn) := HXc.out.cell 0
                generalize (links S).count xn = lc at *
                go_upto_region 18 with (go_at_call 48; refine HL1.out.mono ?_; rintro e w4 ⟨rfl, hB4⟩; have HB4 := Lib.hid hB4; clear hB4)
                have HPe := Lib.hid (HPc.out.below HB4.out)
                have HFe := Lib.hid (HFc.out.below HB4.out)
                have HXe := Lib.hid (HXc.out.below HB4.out)
                have HBe := Lib.hid (HBp.out.trans (HB4.out.mono (Nat.le_of_lt HPc.out.lt)))
                have HIe := Lib.hid (HIC2.out w4 (HSc.out.keep HB4.out))
                clear p0 p1 p2 x0 HL1 HSc HPc HFc HXc HBc HBp HIC2 HLC2 HLC HIC
                have p0 : w4.cell? ⟨p, 0, none⟩ = some (.slice (some ⟨ig, ioff, none⟩) n cap) := HPe.out.cell 0
                have p1 : w4.cell? ⟨p, 1, none⟩ = some (.slice OA no ocap) := HPe.out.cell 1
                have p2 : w4.cell? ⟨p, 2, none⟩ = some (.slice MA k mcap) := HPe.out.cell 2
                have x0 : w4.cell? ⟨xb, 0, none⟩ = some (.int .i64 xn) := HXe.out.cell 0
                have x1 : w4.cell? ⟨xb, 1, none⟩ = some (.bool dr) := HXe.out.cell 1
                have f0 : w4.cell? ⟨fg, k', none⟩ = some (.bool (bs.getD k' false)) := (HFe.out.cell k').trans HBV.out
                clear HBV
                generalize bs.getD k' false = bv at *
                go_cut [176] (fun s wx => ∃ b, s = .bool b ∧ Below w4.heap.size w4 wx)
                case first =>
                  obtain ⟨lb, hlb⟩ : ∃ b, ((lc : Int) != 1) = b := ⟨_, rfl⟩
                  by_cases hk0 : 0 < k'
                  · have hk1 : (0 : Int) < (k' : Int) := by omega
                    rcases bool_tf dr with rfl | rfl <;> rcases bool_tf bv with rfl | rfl <;> rcases bool_tf lb with rfl | rfl
                    all_goals (
                      go_wp2_with (go_at_call 49; refine HIe.out.mono ?_; rintro e w5 ⟨rfl, hB5⟩)
                      go_meet
                      case rel => exact ⟨_, rfl, by first | exact hB5 | exact Below.refl _ _⟩)
                  · obtain rfl : k' = 0 := by omega
                    rcases bool_tf dr with rfl | rfl <;> rcases bool_tf bv with rfl | rfl
                    all_goals (
                      go_wp2_with (go_at_call 49; refine HIe.out.mono ?_; rintro e w5 ⟨rfl, hB5⟩)
                      go_meet
                      case rel => exact ⟨_, rfl, by first | exact hB5 | exact Below.refl _ _⟩)
                case rest =>
                  obtain ⟨b, rfl, hbc⟩ := hcut
                  have HBz := Lib.hid (HBe.out.trans (hbc.mono (Nat.le_of_lt HPe.out.lt)))
                  have HPz := Lib.hid (HPe.out.below hbc)
                  have HFz := Lib.hid (HFe.out.below hbc)
                  clear p0 p1 p2 x0 x1 f0 hbc HBe HPe HFe HXe HIe
                  rcases bool_tf b with rfl | rfl
                  · go_wp2_with (fail)
                    go_ret
                    exact ⟨⟨_, rfl⟩, by rw [← HP.out]; exact HBz.out⟩
                  · go_wp2_with (fail)
                    go_roundw
                    case rel => exact ⟨k' + 1, by go_num, by omega, HBz.out, HPz.out, HFz.out⟩
                    case measure =>
                      simp only [intOf]
                      omega
          · obtain rfl : k' = n := by omega
            go_wp2_with (fail)
            go_ret
            exact ⟨⟨_, rfl⟩, by rw [← HP.out]; exact HB.out⟩
  · go_ret
    exact ⟨⟨_, rfl⟩, HB0.out.trans (hB1.mono HB0.out.size)⟩
end Go.Proofs.Ytenlffhoinialaa
