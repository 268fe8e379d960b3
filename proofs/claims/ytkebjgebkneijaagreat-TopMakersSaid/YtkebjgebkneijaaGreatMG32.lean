/- Texts of one's own that a claim's last text rests on: Tm5. -/
import Derived.Test.YtkebjgebkneijaaGreatMG29
import Derived.Test.YtkebjgebkneijaaGreatMG31
set_option linter.unusedVariables false
set_option linter.unusedSimpArgs false
namespace Go.Proofs.YtkebjgebkneijaaGreat
open Go.RowKit
set_option maxHeartbeats 8000000
set_option maxRecDepth 1000000 in
theorem makers_walk (w : World) (cores : Int) (_ : (Lit.int .i64 cores).wf = true) {PA : Option Addr} {plen pcap : Nat} {xs : List Int} (hx : Ints w PA plen pcap xs) (dirs : Bool) :
  Calls Tryz.prog 4 #[.int .i64 cores, .slice PA plen pcap, .bool dirs] w fun e w' => e = .returned (.bool true) /\ Below w.heap.size w w' := by
 have HX := lhi hx
 obtain ⟨k, hk⟩ : ∃ k : Nat, 2 + cores % 4 = k := ⟨(2 + cores % 4).toNat, by omega⟩
 have hkr : 2 <= k /\ k <= 5 := by omega
 have HK := lhi hkr
 have HNW := lhi (mNew_calls k (by omega) (by omega))
 clear hx
 go_enter Tryz.func4, Tryz.ntmps4
 go_upto_region 4 with (go_at_call 6; refine (awake_calls _).mono ?_; rintro e w1 ⟨rfl, hb1⟩; have HB1 := lhi hb1; clear hb1)
 clear hk
 go_upto_region 5 with (go_at_call 15; refine (HNW.out _).mono ?_; rintro e w2 ⟨g, gm, rfl, hb2, hg, hgm, hI2, hM2⟩; have HB2 := lhi (HB1.out.trans (hb2.mono HB1.out.size)); have HV2 := lhi (new_stv (Nat.zero_le g) (Nat.zero_le gm) hI2 hM2); clear hb2 hg hgm hI2 hM2)
 obtain ⟨sb, hsb⟩ : ∃ x, x = w2.heap.size := ⟨_, rfl⟩
 obtain ⟨w3, hw3⟩ : ∃ x, x = w2.alloc (.cells #[.slice (some ⟨g, 0, none⟩) 1 1, .slice none 0 0, .slice (some ⟨gm, 0, none⟩) k k] 30) := ⟨_, rfl⟩
 have hs1 := HB2.out.size
 have HM0 := lhi (show MkS w sb k 0 w3 from by
  rw [hw3, hsb, MkS]
  refine ⟨_, _, _, fun _ => .slice none 0 0, ⟨_, _, _, rfl⟩, ⟨_, _, _, rfl⟩, ⟨_, _, _, rfl⟩, Blk.new w2 _ _, ?_, HB2.out.alloc hs1 _, hs1⟩
  rw [sm_zero k (by omega)]
  exact HV2.out.below ((Below.refl _ _).alloc (Nat.le_refl _) _))
 rw [<- hw3, <- hsb]
 clear hw3 hsb HV2 hs1
 go_upto_region 6 with (fail)
 go_loopw [10] (fun i wr => ∃ j : Nat, i = .int .i64 j /\ j <= k /\ MkS w sb k j wr) (fun i _ => k - (intOf i).toNat)
 case atStart => exact ⟨0, rfl, by omega, HM0.out⟩
 case round =>
  obtain ⟨j, rfl, hj, iv, ov, mv, ev, ⟨A, n, cap, rfl⟩, ⟨OA, no, ocap, rfl⟩, ⟨MA, nm, mcap, rfl⟩, hS, hV, hB, hsw⟩ := hrel
  have HSB := lhi hS
  have HV := lhi hV
  have HWR := lhi hB
  have p0 : wr.cell? ⟨sb, 0, none⟩ = some (.slice A n cap) := hS.cell 0
  have p1 : wr.cell? ⟨sb, 1, none⟩ = some (.slice OA no ocap) := hS.cell 1
  have p2 : wr.cell? ⟨sb, 2, none⟩ = some (.slice MA nm mcap) := hS.cell 2
  clear hS hV hB HM0
  by_cases hjk : j < k
  ·have hj1 : (j : Int) < k := by omega
   have HDO := lhi (fun (W : World) (hb : Below wr.heap.size wr W) => Do_make (w := W) (c := ⟨1, 0, 0, 0, 0, pathW j, ⟨#[]⟩, ⟨#[]⟩⟩) (HV.out.below hb) (sm_inv HK.out j (by omega)) (by show (pathW j).size <= _; have : (pathW j).size = 3 := rfl; omega) ⟨(by show (0 : Int) <= 0; omega), (by show (0 : Int) < ((Sm k j).made.length : Int); simp [Sm])⟩ (.inr rfl) (sm_step HK.out hjk))
   simp only [CallV.cs, ResV.cs, noRes] at HDO
   have hdz := dec_one (show j < 5 by omega)
   obtain ⟨dj, hdj⟩ : ∃ d, strD (dgs j) = d := ⟨_, rfl⟩
   rw [hdj] at hdz
   have hdc : ¬ (9223372036854775807 < 2 + dj.size) := by omega
   have hcat : (⟨#[47, 119]⟩ : ByteArray) ++ dj = pathW j := by rw [<- hdj]; exact (path_W (by omega)).1
   obtain ⟨pj, hpj⟩ : ∃ p, pathW j = p := ⟨_, rfl⟩
   rw [hpj] at HDO hcat
   clear hpj
   go_upto_region 8 with (fail)
   go_cut [11] (fun s wx => MkR w sb (.slice A n cap) (.slice OA no ocap) (.slice MA nm mcap) k j s wx)
   case first =>
    refine wp_region_held_drew (S := fun w' => Below wr.heap.size wr w') (by kernel_rfl) (below_drew wr) (fun hHeld => ?_)
    refine wpAnyH_take (i := 0) (oi := ⟨some 42, _, _, _, _, _⟩) (v := ?ve1) rfl (by kernel_rfl) (by kernel_rfl) (by kernel_rfl) (fun _ _ _ h => h) (Or.inl ⟨by kernel_rfl, fun w hSw => ?_⟩) (by assumption) ?_
    rotate_left
    ·(have ap0 := (hSw.cell (World.block_lt_of_cell? _ _ p0)).trans p0; have ap1 := (hSw.cell (World.block_lt_of_cell? _ _ p1)).trans p1; have ap2 := (hSw.cell (World.block_lt_of_cell? _ _ p2)).trans p2; go_simp; rfl)
    simp only [Act.put, lTA, lC0, lCS]
    refine wpAnyH_take (i := 1) (oi := ⟨some 43, _, _, _, _, _⟩) (v := ?ve2) rfl (by kernel_rfl) (by kernel_rfl) (by kernel_rfl) (fun _ _ _ h => h) (Or.inl ⟨by kernel_rfl, fun w hSw => ?_⟩) (by assumption) ?_
    rotate_left
    ·(go_simp; rfl)
    simp only [Act.put, lTA, lC0, lCS]
    have HBv0 := lhi (below_drew wr)
    generalize wr.drew = v0 at *
    refine wpAnyH_ready (rs := [2, 9, 10]) (by kernel_rfl) (by simp) ?_
    refine AllReadyH.cons rfl (fun K hK => ?_) (AllReadyH.cons rfl (fun K hK => ?_) (AllReadyH.cons rfl (fun K hK => ?_) AllReadyH.nil))
    ·go_simp
     refine (decimal_calls j (by omega) _).mono ?_
     rintro e v1 ⟨rfl, hB1⟩
     rw [hdj]
     have HBv1 := lhi (HBv0.out.trans (hB1.mono HBv0.out.size))
     show K _ v1
     refine hK.out _ _ HBv1.out (fun hHeld => ?_)
     clear hK K hB1
     refine wpAnyH_take (i := 3) (oi := ⟨some 45, _, _, _, _, _⟩) (v := ?ve3) rfl (by kernel_rfl) (by kernel_rfl) (by kernel_rfl) (fun _ _ _ h => h) (Or.inl ⟨by kernel_rfl, fun w hSw => ?_⟩) (by assumption) ?_
     rotate_left
     ·(go_simp; rfl)
     simp only [Act.put, lTA, lC0, lCS]
     refine wpAnyH_take (i := 4) (oi := ⟨some 46, _, _, _, _, _⟩) (v := ?ve4) rfl (by kernel_rfl) (by kernel_rfl) (by kernel_rfl) (fun _ _ _ h => h) (Or.inl ⟨by kernel_rfl, fun w hSw => ?_⟩) (by assumption) ?_
     rotate_left
     ·(go_simp; rfl)
     simp only [Act.put, lTA, lC0, lCS]
     refine wpAnyH_ready (rs := [5, 9, 10]) (by kernel_rfl) (by simp) ?_
     refine AllReadyH.cons rfl (fun K hK => ?_) (AllReadyH.cons rfl (fun K hK => ?_) (AllReadyH.cons rfl (fun K hK => ?_) AllReadyH.nil))
     ·go_simp
      refine (HDO.out v1 HBv1.out).mono ?_
      rintro e v2 ⟨⟨iv1, ov1, mv1, ev1, rfl, hV1⟩, hB1⟩
      obtain ⟨A1, cap1, rfl⟩ := hV1.ino.at'.form
      obtain ⟨O1, ocap1, rfl⟩ := hV1.opn.at'.form
      obtain ⟨M1, mcap1, rfl⟩ := hV1.mad.at'.form
      generalize (Sm k (j + 1)).inodes.length = n1 at hV1 ⊢
      generalize (Sm k (j + 1)).opens.length = no1 at hV1 ⊢
      generalize (Sm k (j + 1)).made.length = nm1 at hV1 ⊢
      have HBv2 := lhi (HBv1.out.trans (hB1.mono HBv1.out.size))
      have HVv2 := lhi hV1
      show K _ v2
      refine hK.out _ _ HBv2.out (fun hHeld => ?_)
      clear hK K hV1 hB1
      refine wpAnyH_take (i := 6) (oi := ⟨some 41, _, _, _, _, _⟩) (v := ?ve5) rfl (by kernel_rfl) (by kernel_rfl) (by kernel_rfl) (fun _ _ _ h => h) (Or.inl ⟨by kernel_rfl, fun w hSw => ?_⟩) (by assumption) ?_
      rotate_left
      ·(go_simp; rfl)
      simp only [Act.put, lTA, lC0, lCS]
      refine wpAnyH_take (i := 7) (oi := ⟨some 48, _, _, _, _, _⟩) (v := ?ve6) rfl (by kernel_rfl) (by kernel_rfl) (by kernel_rfl) (fun _ _ _ h => h) (Or.inl ⟨by kernel_rfl, fun w hSw => ?_⟩) (by assumption) ?_
      rotate_left
      ·(go_simp; rfl)
      simp only [Act.put, lTA, lC0, lCS]
      refine wpAnyH_take (i := 8) (oi := ⟨some 49, _, _, _, _, _⟩) (v := ?ve7) rfl (by kernel_rfl) (by kernel_rfl) (by kernel_rfl) (fun _ _ _ h => h) (Or.inl ⟨by kernel_rfl, fun w hSw => ?_⟩) (by assumption) ?_
      rotate_left
      ·(go_simp; rfl)
      simp only [Act.put, lTA, lC0, lCS]
      refine wpAnyH_ready (rs := [9, 10]) (by kernel_rfl) (by simp) ?_
      refine AllReadyH.cons rfl (fun K hK => ?_) (AllReadyH.cons rfl (fun K hK => ?_) AllReadyH.nil)
      ·go_simp
       obtain ⟨ob, hob⟩ : ∃ x, x = v2.heap.size := ⟨_, rfl⟩
       have hobl : wr.heap.size <= ob := by rw [hob]; exact HBv2.out.size
       have hal : Below v2.heap.size v2 (v2.alloc (.cells #[.slice none 0 0, .slice none 0 0, .slice none 0 0] 30)) := (Below.refl _ _).alloc (Nat.le_refl _) (.cells #[.slice none 0 0, .slice none 0 0, .slice none 0 0] 30)
       have HBv3 := lhi (HBv2.out.alloc HBv2.out.size (.cells #[.slice none 0 0, .slice none 0 0, .slice none 0 0] 30))
       have HOv3 := lhi (Blk.newAt v2 30 #[.slice none 0 0, .slice none 0 0, .slice none 0 0] hob)
       have HVv3 := lhi (HVv2.out.below (hal))
       show K _ (v2.alloc (.cells #[.slice none 0 0, .slice none 0 0, .slice none 0 0] 30))
       refine hK.out _ _ HBv3.out (fun hHeld => ?_)
       clear hK K hal
       rw [<- hob]
       clear hob
       generalize v2.alloc (.cells #[.slice none 0 0, .slice none 0 0, .slice none 0 0] 30) = v3 at *
       refine wpAnyH_ready (rs := [10]) (by kernel_rfl) (by simp) ?_
       refine AllReadyH.cons rfl (fun K hK => ?_) AllReadyH.nil
       go_simp
       obtain ⟨xb, hxb⟩ : ∃ x, x = v3.heap.size := ⟨_, rfl⟩
       have hxbl : wr.heap.size <= xb := by rw [hxb]; exact HBv3.out.size
       have hal : Below v3.heap.size v3 (v3.alloc (.cells #[.int .i64 0, .int .i64 0, .int .i64 0, .bool false, .string ⟨#[]⟩, .slice none 0 0] 41)) := (Below.refl _ _).alloc (Nat.le_refl _) (.cells #[.int .i64 0, .int .i64 0, .int .i64 0, .bool false, .string ⟨#[]⟩, .slice none 0 0] 41)
       have HBv4 := lhi (HBv3.out.alloc HBv3.out.size (.cells #[.int .i64 0, .int .i64 0, .int .i64 0, .bool false, .string ⟨#[]⟩, .slice none 0 0] 41))
       have HXv4 := lhi (Blk.newAt v3 41 #[.int .i64 0, .int .i64 0, .int .i64 0, .bool false, .string ⟨#[]⟩, .slice none 0 0] hxb)
       have HOv4 := lhi (Blk.of_heap ((hal).block _ HOv3.out.lt) HOv3.out)
       have HVv4 := lhi (HVv3.out.below (hal))
       show K _ (v3.alloc (.cells #[.int .i64 0, .int .i64 0, .int .i64 0, .bool false, .string ⟨#[]⟩, .slice none 0 0] 41))
       refine hK.out _ _ HBv4.out (fun hHeld => ?_)
       clear hK K hal
       rw [<- hxb]
       clear hxb
       generalize v3.alloc (.cells #[.int .i64 0, .int .i64 0, .int .i64 0, .bool false, .string ⟨#[]⟩, .slice none 0 0] 41) = v4 at *
       have hox : ob ≠ xb := Blk.ne_ HOv4.out HXv4.out (by decide)
       have hxo := Ne.symm hox
       have hsbl := HSB.out.lt
       have HR := lhi (mk_round (k := k) (j := j) HWR.out HBv4.out HOv4.out HXv4.out hobl hxbl hox (by omega) (by omega) HSB.out HVv4.out (.slice A1 n1 cap1) (.slice O1 no1 ocap1) (.slice M1 nm1 mcap1) ⟨_, _, _, rfl⟩ ⟨_, _, _, rfl⟩ ⟨_, _, _, rfl⟩)
       obtain ⟨⟨z0, z1, z2⟩, y0, y1, y2⟩ := blk3c HOv4.out
       refine wpAnyH_ready (rs := [11]) (by kernel_rfl) (by simp) ?_
       refine AllReadyH.cons rfl (fun K hK => ?_) AllReadyH.nil
       go_simp
       show K _ (w3F v4 ob (.slice A1 n1 cap1) (.slice O1 no1 ocap1) (.slice M1 nm1 mcap1))
       refine hK.out _ _ (HR.out.b3) (fun hHeld => ?_)
       clear hK K
       obtain ⟨⟨r0, r1, r2, r3, r4, r5⟩, l0, l1, l2, l3, l4, l5⟩ := blk6c HR.out.x3
       refine wpAnyH_ready (rs := [12]) (by kernel_rfl) (by simp) ?_
       refine AllReadyH.cons rfl (fun K hK => ?_) AllReadyH.nil
       go_simp
       show K _ (w9F v4 ob xb (.slice A1 n1 cap1) (.slice O1 no1 ocap1) (.slice M1 nm1 mcap1))
       refine hK.out _ _ (HR.out.b9) (fun hHeld => ?_)
       clear hK K
       have HEND := lhi HR.out.r
       clear HR z0 z1 z2 y0 y1 y2 r0 r1 r2 r3 r4 r5 l0 l1 l2 l3 l4 l5 hHeld
       generalize (w9F v4 ob xb (.slice A1 n1 cap1) (.slice O1 no1 ocap1) (.slice M1 nm1 mcap1)) = wz at *
       refine wpAnyH_done (by kernel_rfl) ?_ _
       go_wp2_with (fail)
       go_meet
       case rel => exact HEND.out
      ·go_simp
       obtain ⟨xb, hxb⟩ : ∃ x, x = v2.heap.size := ⟨_, rfl⟩
       have hxbl : wr.heap.size <= xb := by rw [hxb]; exact HBv2.out.size
       have hal : Below v2.heap.size v2 (v2.alloc (.cells #[.int .i64 0, .int .i64 0, .int .i64 0, .bool false, .string ⟨#[]⟩, .slice none 0 0] 41)) := (Below.refl _ _).alloc (Nat.le_refl _) (.cells #[.int .i64 0, .int .i64 0, .int .i64 0, .bool false, .string ⟨#[]⟩, .slice none 0 0] 41)
       have HBv5 := lhi (HBv2.out.alloc HBv2.out.size (.cells #[.int .i64 0, .int .i64 0, .int .i64 0, .bool false, .string ⟨#[]⟩, .slice none 0 0] 41))
       have HXv5 := lhi (Blk.newAt v2 41 #[.int .i64 0, .int .i64 0, .int .i64 0, .bool false, .string ⟨#[]⟩, .slice none 0 0] hxb)
       have HVv5 := lhi (HVv2.out.below (hal))
       show K _ (v2.alloc (.cells #[.int .i64 0, .int .i64 0, .int .i64 0, .bool false, .string ⟨#[]⟩, .slice none 0 0] 41))
       refine hK.out _ _ HBv5.out (fun hHeld => ?_)
       clear hK K hal
       rw [<- hxb]
       clear hxb
       generalize v2.alloc (.cells #[.int .i64 0, .int .i64 0, .int .i64 0, .bool false, .string ⟨#[]⟩, .slice none 0 0] 41) = v5 at *
       refine wpAnyH_ready (rs := [9]) (by kernel_rfl) (by simp) ?_
       refine AllReadyH.cons rfl (fun K hK => ?_) AllReadyH.nil
       go_simp
       obtain ⟨ob, hob⟩ : ∃ x, x = v5.heap.size := ⟨_, rfl⟩
       have hobl : wr.heap.size <= ob := by rw [hob]; exact HBv5.out.size
       have hal : Below v5.heap.size v5 (v5.alloc (.cells #[.slice none 0 0, .slice none 0 0, .slice none 0 0] 30)) := (Below.refl _ _).alloc (Nat.le_refl _) (.cells #[.slice none 0 0, .slice none 0 0, .slice none 0 0] 30)
       have HBv6 := lhi (HBv5.out.alloc HBv5.out.size (.cells #[.slice none 0 0, .slice none 0 0, .slice none 0 0] 30))
       have HOv6 := lhi (Blk.newAt v5 30 #[.slice none 0 0, .slice none 0 0, .slice none 0 0] hob)
       have HXv6 := lhi (Blk.of_heap ((hal).block _ HXv5.out.lt) HXv5.out)
       have HVv6 := lhi (HVv5.out.below (hal))
       show K _ (v5.alloc (.cells #[.slice none 0 0, .slice none 0 0, .slice none 0 0] 30))
       refine hK.out _ _ HBv6.out (fun hHeld => ?_)
       clear hK K hal
       rw [<- hob]
       clear hob
       generalize v5.alloc (.cells #[.slice none 0 0, .slice none 0 0, .slice none 0 0] 30) = v6 at *
       have hox : ob ≠ xb := Blk.ne_ HOv6.out HXv6.out (by decide)
       have hxo := Ne.symm hox
       have hsbl := HSB.out.lt
       have HR := lhi (mk_round (k := k) (j := j) HWR.out HBv6.out HOv6.out HXv6.out hobl hxbl hox (by omega) (by omega) HSB.out HVv6.out (.slice A1 n1 cap1) (.slice O1 no1 ocap1) (.slice M1 nm1 mcap1) ⟨_, _, _, rfl⟩ ⟨_, _, _, rfl⟩ ⟨_, _, _, rfl⟩)
       obtain ⟨⟨z0, z1, z2⟩, y0, y1, y2⟩ := blk3c HOv6.out
       refine wpAnyH_ready (rs := [11]) (by kernel_rfl) (by simp) ?_
       refine AllReadyH.cons rfl (fun K hK => ?_) AllReadyH.nil
       go_simp
       show K _ (w3F v6 ob (.slice A1 n1 cap1) (.slice O1 no1 ocap1) (.slice M1 nm1 mcap1))
       refine hK.out _ _ (HR.out.b3) (fun hHeld => ?_)
       clear hK K
       obtain ⟨⟨r0, r1, r2, r3, r4, r5⟩, l0, l1, l2, l3, l4, l5⟩ := blk6c HR.out.x3
       refine wpAnyH_ready (rs := [12]) (by kernel_rfl) (by simp) ?_
       refine AllReadyH.cons rfl (fun K hK => ?_) AllReadyH.nil
       go_simp
       show K _ (w9F v6 ob xb (.slice A1 n1 cap1) (.slice O1 no1 ocap1) (.slice M1 nm1 mcap1))
       refine hK.out _ _ (HR.out.b9) (fun hHeld => ?_)
       clear hK K
       have HEND := lhi HR.out.r
       clear HR z0 z1 z2 y0 y1 y2 r0 r1 r2 r3 r4 r5 l0 l1 l2 l3 l4 l5 hHeld
       generalize (w9F v6 ob xb (.slice A1 n1 cap1) (.slice O1 no1 ocap1) (.slice M1 nm1 mcap1)) = wz at *
       refine wpAnyH_done (by kernel_rfl) ?_ _
       go_wp2_with (fail)
       go_meet
       case rel => exact HEND.out
     ·go_simp
      obtain ⟨ob, hob⟩ : ∃ x, x = v1.heap.size := ⟨_, rfl⟩
      have hobl : wr.heap.size <= ob := by rw [hob]; exact HBv1.out.size
      have hal : Below v1.heap.size v1 (v1.alloc (.cells #[.slice none 0 0, .slice none 0 0, .slice none 0 0] 30)) := (Below.refl _ _).alloc (Nat.le_refl _) (.cells #[.slice none 0 0, .slice none 0 0, .slice none 0 0] 30)
      have HBv7 := lhi (HBv1.out.alloc HBv1.out.size (.cells #[.slice none 0 0, .slice none 0 0, .slice none 0 0] 30))
      have HOv7 := lhi (Blk.newAt v1 30 #[.slice none 0 0, .slice none 0 0, .slice none 0 0] hob)
      show K _ (v1.alloc (.cells #[.slice none 0 0, .slice none 0 0, .slice none 0 0] 30))
      refine hK.out _ _ HBv7.out (fun hHeld => ?_)
      clear hK K hal
      rw [<- hob]
      clear hob
      generalize v1.alloc (.cells #[.slice none 0 0, .slice none 0 0, .slice none 0 0] 30) = v7 at *
      refine wpAnyH_ready (rs := [5, 10]) (by kernel_rfl) (by simp) ?_
      refine AllReadyH.cons rfl (fun K hK => ?_) (AllReadyH.cons rfl (fun K hK => ?_) AllReadyH.nil)
      ·go_simp
       refine (HDO.out v7 HBv7.out).mono ?_
       rintro e v8 ⟨⟨iv1, ov1, mv1, ev1, rfl, hV1⟩, hB1⟩
       obtain ⟨A1, cap1, rfl⟩ := hV1.ino.at'.form
       obtain ⟨O1, ocap1, rfl⟩ := hV1.opn.at'.form
       obtain ⟨M1, mcap1, rfl⟩ := hV1.mad.at'.form
       generalize (Sm k (j + 1)).inodes.length = n1 at hV1 ⊢
       generalize (Sm k (j + 1)).opens.length = no1 at hV1 ⊢
       generalize (Sm k (j + 1)).made.length = nm1 at hV1 ⊢
       have HBv8 := lhi (HBv7.out.trans (hB1.mono HBv7.out.size))
       have HVv8 := lhi hV1
       have HOv8 := lhi (Blk.of_heap ((hB1).block _ HOv7.out.lt) HOv7.out)
       show K _ v8
       refine hK.out _ _ HBv8.out (fun hHeld => ?_)
       clear hK K hV1 hB1
       refine wpAnyH_take (i := 6) (oi := ⟨some 41, _, _, _, _, _⟩) (v := ?ve8) rfl (by kernel_rfl) (by kernel_rfl) (by kernel_rfl) (fun _ _ _ h => h) (Or.inl ⟨by kernel_rfl, fun w hSw => ?_⟩) (by assumption) ?_
       rotate_left
       ·(go_simp; rfl)
       simp only [Act.put, lTA, lC0, lCS]
       refine wpAnyH_take (i := 7) (oi := ⟨some 48, _, _, _, _, _⟩) (v := ?ve9) rfl (by kernel_rfl) (by kernel_rfl) (by kernel_rfl) (fun _ _ _ h => h) (Or.inl ⟨by kernel_rfl, fun w hSw => ?_⟩) (by assumption) ?_
       rotate_left
       ·(go_simp; rfl)
       simp only [Act.put, lTA, lC0, lCS]
       refine wpAnyH_take (i := 8) (oi := ⟨some 49, _, _, _, _, _⟩) (v := ?ve10) rfl (by kernel_rfl) (by kernel_rfl) (by kernel_rfl) (fun _ _ _ h => h) (Or.inl ⟨by kernel_rfl, fun w hSw => ?_⟩) (by assumption) ?_
       rotate_left
       ·(go_simp; rfl)
       simp only [Act.put, lTA, lC0, lCS]
       refine wpAnyH_ready (rs := [10]) (by kernel_rfl) (by simp) ?_
       refine AllReadyH.cons rfl (fun K hK => ?_) AllReadyH.nil
       go_simp
       obtain ⟨xb, hxb⟩ : ∃ x, x = v8.heap.size := ⟨_, rfl⟩
       have hxbl : wr.heap.size <= xb := by rw [hxb]; exact HBv8.out.size
       have hal : Below v8.heap.size v8 (v8.alloc (.cells #[.int .i64 0, .int .i64 0, .int .i64 0, .bool false, .string ⟨#[]⟩, .slice none 0 0] 41)) := (Below.refl _ _).alloc (Nat.le_refl _) (.cells #[.int .i64 0, .int .i64 0, .int .i64 0, .bool false, .string ⟨#[]⟩, .slice none 0 0] 41)
       have HBv9 := lhi (HBv8.out.alloc HBv8.out.size (.cells #[.int .i64 0, .int .i64 0, .int .i64 0, .bool false, .string ⟨#[]⟩, .slice none 0 0] 41))
       have HXv9 := lhi (Blk.newAt v8 41 #[.int .i64 0, .int .i64 0, .int .i64 0, .bool false, .string ⟨#[]⟩, .slice none 0 0] hxb)
       have HOv9 := lhi (Blk.of_heap ((hal).block _ HOv8.out.lt) HOv8.out)
       have HVv9 := lhi (HVv8.out.below (hal))
       show K _ (v8.alloc (.cells #[.int .i64 0, .int .i64 0, .int .i64 0, .bool false, .string ⟨#[]⟩, .slice none 0 0] 41))
       refine hK.out _ _ HBv9.out (fun hHeld => ?_)
       clear hK K hal
       rw [<- hxb]
       clear hxb
       generalize v8.alloc (.cells #[.int .i64 0, .int .i64 0, .int .i64 0, .bool false, .string ⟨#[]⟩, .slice none 0 0] 41) = v9 at *
       have hox : ob ≠ xb := Blk.ne_ HOv9.out HXv9.out (by decide)
       have hxo := Ne.symm hox
       have hsbl := HSB.out.lt
       have HR := lhi (mk_round (k := k) (j := j) HWR.out HBv9.out HOv9.out HXv9.out hobl hxbl hox (by omega) (by omega) HSB.out HVv9.out (.slice A1 n1 cap1) (.slice O1 no1 ocap1) (.slice M1 nm1 mcap1) ⟨_, _, _, rfl⟩ ⟨_, _, _, rfl⟩ ⟨_, _, _, rfl⟩)
       obtain ⟨⟨z0, z1, z2⟩, y0, y1, y2⟩ := blk3c HOv9.out
       refine wpAnyH_ready (rs := [11]) (by kernel_rfl) (by simp) ?_
       refine AllReadyH.cons rfl (fun K hK => ?_) AllReadyH.nil
       go_simp
       show K _ (w3F v9 ob (.slice A1 n1 cap1) (.slice O1 no1 ocap1) (.slice M1 nm1 mcap1))
       refine hK.out _ _ (HR.out.b3) (fun hHeld => ?_)
       clear hK K
       obtain ⟨⟨r0, r1, r2, r3, r4, r5⟩, l0, l1, l2, l3, l4, l5⟩ := blk6c HR.out.x3
       refine wpAnyH_ready (rs := [12]) (by kernel_rfl) (by simp) ?_
       refine AllReadyH.cons rfl (fun K hK => ?_) AllReadyH.nil
       go_simp
       show K _ (w9F v9 ob xb (.slice A1 n1 cap1) (.slice O1 no1 ocap1) (.slice M1 nm1 mcap1))
       refine hK.out _ _ (HR.out.b9) (fun hHeld => ?_)
       clear hK K
       have HEND := lhi HR.out.r
       clear HR z0 z1 z2 y0 y1 y2 r0 r1 r2 r3 r4 r5 l0 l1 l2 l3 l4 l5 hHeld
       generalize (w9F v9 ob xb (.slice A1 n1 cap1) (.slice O1 no1 ocap1) (.slice M1 nm1 mcap1)) = wz at *
       refine wpAnyH_done (by kernel_rfl) ?_ _
       go_wp2_with (fail)
       go_meet
       case rel => exact HEND.out
      ·go_simp
       obtain ⟨xb, hxb⟩ : ∃ x, x = v7.heap.size := ⟨_, rfl⟩
       have hxbl : wr.heap.size <= xb := by rw [hxb]; exact HBv7.out.size
       have hal : Below v7.heap.size v7 (v7.alloc (.cells #[.int .i64 0, .int .i64 0, .int .i64 0, .bool false, .string ⟨#[]⟩, .slice none 0 0] 41)) := (Below.refl _ _).alloc (Nat.le_refl _) (.cells #[.int .i64 0, .int .i64 0, .int .i64 0, .bool false, .string ⟨#[]⟩, .slice none 0 0] 41)
       have HBv10 := lhi (HBv7.out.alloc HBv7.out.size (.cells #[.int .i64 0, .int .i64 0, .int .i64 0, .bool false, .string ⟨#[]⟩, .slice none 0 0] 41))
       have HXv10 := lhi (Blk.newAt v7 41 #[.int .i64 0, .int .i64 0, .int .i64 0, .bool false, .string ⟨#[]⟩, .slice none 0 0] hxb)
       have HOv10 := lhi (Blk.of_heap ((hal).block _ HOv7.out.lt) HOv7.out)
       show K _ (v7.alloc (.cells #[.int .i64 0, .int .i64 0, .int .i64 0, .bool false, .string ⟨#[]⟩, .slice none 0 0] 41))
       refine hK.out _ _ HBv10.out (fun hHeld => ?_)
       clear hK K hal
       rw [<- hxb]
       clear hxb
       generalize v7.alloc (.cells #[.int .i64 0, .int .i64 0, .int .i64 0, .bool false, .string ⟨#[]⟩, .slice none 0 0] 41) = v10 at *
       refine wpAnyH_ready (rs := [5]) (by kernel_rfl) (by simp) ?_
       refine AllReadyH.cons rfl (fun K hK => ?_) AllReadyH.nil
       go_simp
       refine (HDO.out v10 HBv10.out).mono ?_
       rintro e v11 ⟨⟨iv1, ov1, mv1, ev1, rfl, hV1⟩, hB1⟩
       obtain ⟨A1, cap1, rfl⟩ := hV1.ino.at'.form
       obtain ⟨O1, ocap1, rfl⟩ := hV1.opn.at'.form
       obtain ⟨M1, mcap1, rfl⟩ := hV1.mad.at'.form
       generalize (Sm k (j + 1)).inodes.length = n1 at hV1 ⊢
       generalize (Sm k (j + 1)).opens.length = no1 at hV1 ⊢
       generalize (Sm k (j + 1)).made.length = nm1 at hV1 ⊢
       have HBv11 := lhi (HBv10.out.trans (hB1.mono HBv10.out.size))
       have HVv11 := lhi hV1
       have HOv11 := lhi (Blk.of_heap ((hB1).block _ HOv10.out.lt) HOv10.out)
       have HXv11 := lhi (Blk.of_heap ((hB1).block _ HXv10.out.lt) HXv10.out)
       show K _ v11
       refine hK.out _ _ HBv11.out (fun hHeld => ?_)
       clear hK K hV1 hB1
       refine wpAnyH_take (i := 6) (oi := ⟨some 41, _, _, _, _, _⟩) (v := ?ve11) rfl (by kernel_rfl) (by kernel_rfl) (by kernel_rfl) (fun _ _ _ h => h) (Or.inl ⟨by kernel_rfl, fun w hSw => ?_⟩) (by assumption) ?_
       rotate_left
       ·(go_simp; rfl)
       simp only [Act.put, lTA, lC0, lCS]
       refine wpAnyH_take (i := 7) (oi := ⟨some 48, _, _, _, _, _⟩) (v := ?ve12) rfl (by kernel_rfl) (by kernel_rfl) (by kernel_rfl) (fun _ _ _ h => h) (Or.inl ⟨by kernel_rfl, fun w hSw => ?_⟩) (by assumption) ?_
       rotate_left
       ·(go_simp; rfl)
       simp only [Act.put, lTA, lC0, lCS]
       refine wpAnyH_take (i := 8) (oi := ⟨some 49, _, _, _, _, _⟩) (v := ?ve13) rfl (by kernel_rfl) (by kernel_rfl) (by kernel_rfl) (fun _ _ _ h => h) (Or.inl ⟨by kernel_rfl, fun w hSw => ?_⟩) (by assumption) ?_
       rotate_left
       ·(go_simp; rfl)
       simp only [Act.put, lTA, lC0, lCS]
       have hox : ob ≠ xb := Blk.ne_ HOv11.out HXv11.out (by decide)
       have hxo := Ne.symm hox
       have hsbl := HSB.out.lt
       have HR := lhi (mk_round (k := k) (j := j) HWR.out HBv11.out HOv11.out HXv11.out hobl hxbl hox (by omega) (by omega) HSB.out HVv11.out (.slice A1 n1 cap1) (.slice O1 no1 ocap1) (.slice M1 nm1 mcap1) ⟨_, _, _, rfl⟩ ⟨_, _, _, rfl⟩ ⟨_, _, _, rfl⟩)
       obtain ⟨⟨z0, z1, z2⟩, y0, y1, y2⟩ := blk3c HOv11.out
       refine wpAnyH_ready (rs := [11]) (by kernel_rfl) (by simp) ?_
       refine AllReadyH.cons rfl (fun K hK => ?_) AllReadyH.nil
       go_simp
       show K _ (w3F v11 ob (.slice A1 n1 cap1) (.slice O1 no1 ocap1) (.slice M1 nm1 mcap1))
       refine hK.out _ _ (HR.out.b3) (fun hHeld => ?_)
       clear hK K
       obtain ⟨⟨r0, r1, r2, r3, r4, r5⟩, l0, l1, l2, l3, l4, l5⟩ := blk6c HR.out.x3
       refine wpAnyH_ready (rs := [12]) (by kernel_rfl) (by simp) ?_
       refine AllReadyH.cons rfl (fun K hK => ?_) AllReadyH.nil
       go_simp
       show K _ (w9F v11 ob xb (.slice A1 n1 cap1) (.slice O1 no1 ocap1) (.slice M1 nm1 mcap1))
       refine hK.out _ _ (HR.out.b9) (fun hHeld => ?_)
       clear hK K
       have HEND := lhi HR.out.r
       clear HR z0 z1 z2 y0 y1 y2 r0 r1 r2 r3 r4 r5 l0 l1 l2 l3 l4 l5 hHeld
       generalize (w9F v11 ob xb (.slice A1 n1 cap1) (.slice O1 no1 ocap1) (.slice M1 nm1 mcap1)) = wz at *
       refine wpAnyH_done (by kernel_rfl) ?_ _
       go_wp2_with (fail)
       go_meet
       case rel => exact HEND.out
     ·go_simp
      obtain ⟨xb, hxb⟩ : ∃ x, x = v1.heap.size := ⟨_, rfl⟩
      have hxbl : wr.heap.size <= xb := by rw [hxb]; exact HBv1.out.size
      have hal : Below v1.heap.size v1 (v1.alloc (.cells #[.int .i64 0, .int .i64 0, .int .i64 0, .bool false, .string ⟨#[]⟩, .slice none 0 0] 41)) := (Below.refl _ _).alloc (Nat.le_refl _) (.cells #[.int .i64 0, .int .i64 0, .int .i64 0, .bool false, .string ⟨#[]⟩, .slice none 0 0] 41)
      have HBv12 := lhi (HBv1.out.alloc HBv1.out.size (.cells #[.int .i64 0, .int .i64 0, .int .i64 0, .bool false, .string ⟨#[]⟩, .slice none 0 0] 41))
      have HXv12 := lhi (Blk.newAt v1 41 #[.int .i64 0, .int .i64 0, .int .i64 0, .bool false, .string ⟨#[]⟩, .slice none 0 0] hxb)
      show K _ (v1.alloc (.cells #[.int .i64 0, .int .i64 0, .int .i64 0, .bool false, .string ⟨#[]⟩, .slice none 0 0] 41))
      refine hK.out _ _ HBv12.out (fun hHeld => ?_)
      clear hK K hal
      rw [<- hxb]
      clear hxb
      generalize v1.alloc (.cells #[.int .i64 0, .int .i64 0, .int .i64 0, .bool false, .string ⟨#[]⟩, .slice none 0 0] 41) = v12 at *
      refine wpAnyH_ready (rs := [5, 9]) (by kernel_rfl) (by simp) ?_
      refine AllReadyH.cons rfl (fun K hK => ?_) (AllReadyH.cons rfl (fun K hK => ?_) AllReadyH.nil)
      ·go_simp
       refine (HDO.out v12 HBv12.out).mono ?_
       rintro e v13 ⟨⟨iv1, ov1, mv1, ev1, rfl, hV1⟩, hB1⟩
       obtain ⟨A1, cap1, rfl⟩ := hV1.ino.at'.form
       obtain ⟨O1, ocap1, rfl⟩ := hV1.opn.at'.form
       obtain ⟨M1, mcap1, rfl⟩ := hV1.mad.at'.form
       generalize (Sm k (j + 1)).inodes.length = n1 at hV1 ⊢
       generalize (Sm k (j + 1)).opens.length = no1 at hV1 ⊢
       generalize (Sm k (j + 1)).made.length = nm1 at hV1 ⊢
       have HBv13 := lhi (HBv12.out.trans (hB1.mono HBv12.out.size))
       have HVv13 := lhi hV1
       have HXv13 := lhi (Blk.of_heap ((hB1).block _ HXv12.out.lt) HXv12.out)
       show K _ v13
       refine hK.out _ _ HBv13.out (fun hHeld => ?_)
       clear hK K hV1 hB1
       refine wpAnyH_take (i := 6) (oi := ⟨some 41, _, _, _, _, _⟩) (v := ?ve14) rfl (by kernel_rfl) (by kernel_rfl) (by kernel_rfl) (fun _ _ _ h => h) (Or.inl ⟨by kernel_rfl, fun w hSw => ?_⟩) (by assumption) ?_
       rotate_left
       ·(go_simp; rfl)
       simp only [Act.put, lTA, lC0, lCS]
       refine wpAnyH_take (i := 7) (oi := ⟨some 48, _, _, _, _, _⟩) (v := ?ve15) rfl (by kernel_rfl) (by kernel_rfl) (by kernel_rfl) (fun _ _ _ h => h) (Or.inl ⟨by kernel_rfl, fun w hSw => ?_⟩) (by assumption) ?_
       rotate_left
       ·(go_simp; rfl)
       simp only [Act.put, lTA, lC0, lCS]
       refine wpAnyH_take (i := 8) (oi := ⟨some 49, _, _, _, _, _⟩) (v := ?ve16) rfl (by kernel_rfl) (by kernel_rfl) (by kernel_rfl) (fun _ _ _ h => h) (Or.inl ⟨by kernel_rfl, fun w hSw => ?_⟩) (by assumption) ?_
       rotate_left
       ·(go_simp; rfl)
       simp only [Act.put, lTA, lC0, lCS]
       refine wpAnyH_ready (rs := [9]) (by kernel_rfl) (by simp) ?_
       refine AllReadyH.cons rfl (fun K hK => ?_) AllReadyH.nil
       go_simp
       obtain ⟨ob, hob⟩ : ∃ x, x = v13.heap.size := ⟨_, rfl⟩
       have hobl : wr.heap.size <= ob := by rw [hob]; exact HBv13.out.size
       have hal : Below v13.heap.size v13 (v13.alloc (.cells #[.slice none 0 0, .slice none 0 0, .slice none 0 0] 30)) := (Below.refl _ _).alloc (Nat.le_refl _) (.cells #[.slice none 0 0, .slice none 0 0, .slice none 0 0] 30)
       have HBv14 := lhi (HBv13.out.alloc HBv13.out.size (.cells #[.slice none 0 0, .slice none 0 0, .slice none 0 0] 30))
       have HOv14 := lhi (Blk.newAt v13 30 #[.slice none 0 0, .slice none 0 0, .slice none 0 0] hob)
       have HXv14 := lhi (Blk.of_heap ((hal).block _ HXv13.out.lt) HXv13.out)
       have HVv14 := lhi (HVv13.out.below (hal))
       show K _ (v13.alloc (.cells #[.slice none 0 0, .slice none 0 0, .slice none 0 0] 30))
       refine hK.out _ _ HBv14.out (fun hHeld => ?_)
       clear hK K hal
       rw [<- hob]
       clear hob
       generalize v13.alloc (.cells #[.slice none 0 0, .slice none 0 0, .slice none 0 0] 30) = v14 at *
       have hox : ob ≠ xb := Blk.ne_ HOv14.out HXv14.out (by decide)
       have hxo := Ne.symm hox
       have hsbl := HSB.out.lt
       have HR := lhi (mk_round (k := k) (j := j) HWR.out HBv14.out HOv14.out HXv14.out hobl hxbl hox (by omega) (by omega) HSB.out HVv14.out (.slice A1 n1 cap1) (.slice O1 no1 ocap1) (.slice M1 nm1 mcap1) ⟨_, _, _, rfl⟩ ⟨_, _, _, rfl⟩ ⟨_, _, _, rfl⟩)
       obtain ⟨⟨z0, z1, z2⟩, y0, y1, y2⟩ := blk3c HOv14.out
       refine wpAnyH_ready (rs := [11]) (by kernel_rfl) (by simp) ?_
       refine AllReadyH.cons rfl (fun K hK => ?_) AllReadyH.nil
       go_simp
       show K _ (w3F v14 ob (.slice A1 n1 cap1) (.slice O1 no1 ocap1) (.slice M1 nm1 mcap1))
       refine hK.out _ _ (HR.out.b3) (fun hHeld => ?_)
       clear hK K
       obtain ⟨⟨r0, r1, r2, r3, r4, r5⟩, l0, l1, l2, l3, l4, l5⟩ := blk6c HR.out.x3
       refine wpAnyH_ready (rs := [12]) (by kernel_rfl) (by simp) ?_
       refine AllReadyH.cons rfl (fun K hK => ?_) AllReadyH.nil
       go_simp
       show K _ (w9F v14 ob xb (.slice A1 n1 cap1) (.slice O1 no1 ocap1) (.slice M1 nm1 mcap1))
       refine hK.out _ _ (HR.out.b9) (fun hHeld => ?_)
       clear hK K
       have HEND := lhi HR.out.r
       clear HR z0 z1 z2 y0 y1 y2 r0 r1 r2 r3 r4 r5 l0 l1 l2 l3 l4 l5 hHeld
       generalize (w9F v14 ob xb (.slice A1 n1 cap1) (.slice O1 no1 ocap1) (.slice M1 nm1 mcap1)) = wz at *
       refine wpAnyH_done (by kernel_rfl) ?_ _
       go_wp2_with (fail)
       go_meet
       case rel => exact HEND.out
      ·go_simp
       obtain ⟨ob, hob⟩ : ∃ x, x = v12.heap.size := ⟨_, rfl⟩
       have hobl : wr.heap.size <= ob := by rw [hob]; exact HBv12.out.size
       have hal : Below v12.heap.size v12 (v12.alloc (.cells #[.slice none 0 0, .slice none 0 0, .slice none 0 0] 30)) := (Below.refl _ _).alloc (Nat.le_refl _) (.cells #[.slice none 0 0, .slice none 0 0, .slice none 0 0] 30)
       have HBv15 := lhi (HBv12.out.alloc HBv12.out.size (.cells #[.slice none 0 0, .slice none 0 0, .slice none 0 0] 30))
       have HOv15 := lhi (Blk.newAt v12 30 #[.slice none 0 0, .slice none 0 0, .slice none 0 0] hob)
       have HXv15 := lhi (Blk.of_heap ((hal).block _ HXv12.out.lt) HXv12.out)
       show K _ (v12.alloc (.cells #[.slice none 0 0, .slice none 0 0, .slice none 0 0] 30))
       refine hK.out _ _ HBv15.out (fun hHeld => ?_)
       clear hK K hal
       rw [<- hob]
       clear hob
       generalize v12.alloc (.cells #[.slice none 0 0, .slice none 0 0, .slice none 0 0] 30) = v15 at *
       refine wpAnyH_ready (rs := [5]) (by kernel_rfl) (by simp) ?_
       refine AllReadyH.cons rfl (fun K hK => ?_) AllReadyH.nil
       go_simp
       refine (HDO.out v15 HBv15.out).mono ?_
       rintro e v16 ⟨⟨iv1, ov1, mv1, ev1, rfl, hV1⟩, hB1⟩
       obtain ⟨A1, cap1, rfl⟩ := hV1.ino.at'.form
       obtain ⟨O1, ocap1, rfl⟩ := hV1.opn.at'.form
       obtain ⟨M1, mcap1, rfl⟩ := hV1.mad.at'.form
       generalize (Sm k (j + 1)).inodes.length = n1 at hV1 ⊢
       generalize (Sm k (j + 1)).opens.length = no1 at hV1 ⊢
       generalize (Sm k (j + 1)).made.length = nm1 at hV1 ⊢
       have HBv16 := lhi (HBv15.out.trans (hB1.mono HBv15.out.size))
       have HVv16 := lhi hV1
       have HOv16 := lhi (Blk.of_heap ((hB1).block _ HOv15.out.lt) HOv15.out)
       have HXv16 := lhi (Blk.of_heap ((hB1).block _ HXv15.out.lt) HXv15.out)
       show K _ v16
       refine hK.out _ _ HBv16.out (fun hHeld => ?_)
       clear hK K hV1 hB1
       refine wpAnyH_take (i := 6) (oi := ⟨some 41, _, _, _, _, _⟩) (v := ?ve17) rfl (by kernel_rfl) (by kernel_rfl) (by kernel_rfl) (fun _ _ _ h => h) (Or.inl ⟨by kernel_rfl, fun w hSw => ?_⟩) (by assumption) ?_
       rotate_left
       ·(go_simp; rfl)
       simp only [Act.put, lTA, lC0, lCS]
       refine wpAnyH_take (i := 7) (oi := ⟨some 48, _, _, _, _, _⟩) (v := ?ve18) rfl (by kernel_rfl) (by kernel_rfl) (by kernel_rfl) (fun _ _ _ h => h) (Or.inl ⟨by kernel_rfl, fun w hSw => ?_⟩) (by assumption) ?_
       rotate_left
       ·(go_simp; rfl)
       simp only [Act.put, lTA, lC0, lCS]
       refine wpAnyH_take (i := 8) (oi := ⟨some 49, _, _, _, _, _⟩) (v := ?ve19) rfl (by kernel_rfl) (by kernel_rfl) (by kernel_rfl) (fun _ _ _ h => h) (Or.inl ⟨by kernel_rfl, fun w hSw => ?_⟩) (by assumption) ?_
       rotate_left
       ·(go_simp; rfl)
       simp only [Act.put, lTA, lC0, lCS]
       have hox : ob ≠ xb := Blk.ne_ HOv16.out HXv16.out (by decide)
       have hxo := Ne.symm hox
       have hsbl := HSB.out.lt
       have HR := lhi (mk_round (k := k) (j := j) HWR.out HBv16.out HOv16.out HXv16.out hobl hxbl hox (by omega) (by omega) HSB.out HVv16.out (.slice A1 n1 cap1) (.slice O1 no1 ocap1) (.slice M1 nm1 mcap1) ⟨_, _, _, rfl⟩ ⟨_, _, _, rfl⟩ ⟨_, _, _, rfl⟩)
       obtain ⟨⟨z0, z1, z2⟩, y0, y1, y2⟩ := blk3c HOv16.out
       refine wpAnyH_ready (rs := [11]) (by kernel_rfl) (by simp) ?_
       refine AllReadyH.cons rfl (fun K hK => ?_) AllReadyH.nil
       go_simp
       show K _ (w3F v16 ob (.slice A1 n1 cap1) (.slice O1 no1 ocap1) (.slice M1 nm1 mcap1))
       refine hK.out _ _ (HR.out.b3) (fun hHeld => ?_)
       clear hK K
       obtain ⟨⟨r0, r1, r2, r3, r4, r5⟩, l0, l1, l2, l3, l4, l5⟩ := blk6c HR.out.x3
       refine wpAnyH_ready (rs := [12]) (by kernel_rfl) (by simp) ?_
       refine AllReadyH.cons rfl (fun K hK => ?_) AllReadyH.nil
       go_simp
       show K _ (w9F v16 ob xb (.slice A1 n1 cap1) (.slice O1 no1 ocap1) (.slice M1 nm1 mcap1))
       refine hK.out _ _ (HR.out.b9) (fun hHeld => ?_)
       clear hK K
       have HEND := lhi HR.out.r
       clear HR z0 z1 z2 y0 y1 y2 r0 r1 r2 r3 r4 r5 l0 l1 l2 l3 l4 l5 hHeld
       generalize (w9F v16 ob xb (.slice A1 n1 cap1) (.slice O1 no1 ocap1) (.slice M1 nm1 mcap1)) = wz at *
       refine wpAnyH_done (by kernel_rfl) ?_ _
       go_wp2_with (fail)
       go_meet
       case rel => exact HEND.out
    ·go_simp
     obtain ⟨ob, hob⟩ : ∃ x, x = v0.heap.size := ⟨_, rfl⟩
     have hobl : wr.heap.size <= ob := by rw [hob]; exact HBv0.out.size
     have hal : Below v0.heap.size v0 (v0.alloc (.cells #[.slice none 0 0, .slice none 0 0, .slice none 0 0] 30)) := (Below.refl _ _).alloc (Nat.le_refl _) (.cells #[.slice none 0 0, .slice none 0 0, .slice none 0 0] 30)
     have HBv17 := lhi (HBv0.out.alloc HBv0.out.size (.cells #[.slice none 0 0, .slice none 0 0, .slice none 0 0] 30))
     have HOv17 := lhi (Blk.newAt v0 30 #[.slice none 0 0, .slice none 0 0, .slice none 0 0] hob)
     show K _ (v0.alloc (.cells #[.slice none 0 0, .slice none 0 0, .slice none 0 0] 30))
     refine hK.out _ _ HBv17.out (fun hHeld => ?_)
     clear hK K hal
     rw [<- hob]
     clear hob
     generalize v0.alloc (.cells #[.slice none 0 0, .slice none 0 0, .slice none 0 0] 30) = v17 at *
     refine wpAnyH_ready (rs := [2, 10]) (by kernel_rfl) (by simp) ?_
     refine AllReadyH.cons rfl (fun K hK => ?_) (AllReadyH.cons rfl (fun K hK => ?_) AllReadyH.nil)
     ·go_simp
      refine (decimal_calls j (by omega) _).mono ?_
      rintro e v18 ⟨rfl, hB1⟩
      rw [hdj]
      have HBv18 := lhi (HBv17.out.trans (hB1.mono HBv17.out.size))
      have HOv18 := lhi (Blk.of_heap ((hB1).block _ HOv17.out.lt) HOv17.out)
      show K _ v18
      refine hK.out _ _ HBv18.out (fun hHeld => ?_)
      clear hK K hB1
      refine wpAnyH_take (i := 3) (oi := ⟨some 45, _, _, _, _, _⟩) (v := ?ve20) rfl (by kernel_rfl) (by kernel_rfl) (by kernel_rfl) (fun _ _ _ h => h) (Or.inl ⟨by kernel_rfl, fun w hSw => ?_⟩) (by assumption) ?_
      rotate_left
      ·(go_simp; rfl)
      simp only [Act.put, lTA, lC0, lCS]
      refine wpAnyH_take (i := 4) (oi := ⟨some 46, _, _, _, _, _⟩) (v := ?ve21) rfl (by kernel_rfl) (by kernel_rfl) (by kernel_rfl) (fun _ _ _ h => h) (Or.inl ⟨by kernel_rfl, fun w hSw => ?_⟩) (by assumption) ?_
      rotate_left
      ·(go_simp; rfl)
      simp only [Act.put, lTA, lC0, lCS]
      refine wpAnyH_ready (rs := [5, 10]) (by kernel_rfl) (by simp) ?_
      refine AllReadyH.cons rfl (fun K hK => ?_) (AllReadyH.cons rfl (fun K hK => ?_) AllReadyH.nil)
      ·go_simp
       refine (HDO.out v18 HBv18.out).mono ?_
       rintro e v19 ⟨⟨iv1, ov1, mv1, ev1, rfl, hV1⟩, hB1⟩
       obtain ⟨A1, cap1, rfl⟩ := hV1.ino.at'.form
       obtain ⟨O1, ocap1, rfl⟩ := hV1.opn.at'.form
       obtain ⟨M1, mcap1, rfl⟩ := hV1.mad.at'.form
       generalize (Sm k (j + 1)).inodes.length = n1 at hV1 ⊢
       generalize (Sm k (j + 1)).opens.length = no1 at hV1 ⊢
       generalize (Sm k (j + 1)).made.length = nm1 at hV1 ⊢
       have HBv19 := lhi (HBv18.out.trans (hB1.mono HBv18.out.size))
       have HVv19 := lhi hV1
       have HOv19 := lhi (Blk.of_heap ((hB1).block _ HOv18.out.lt) HOv18.out)
       show K _ v19
       refine hK.out _ _ HBv19.out (fun hHeld => ?_)
       clear hK K hV1 hB1
       refine wpAnyH_take (i := 6) (oi := ⟨some 41, _, _, _, _, _⟩) (v := ?ve22) rfl (by kernel_rfl) (by kernel_rfl) (by kernel_rfl) (fun _ _ _ h => h) (Or.inl ⟨by kernel_rfl, fun w hSw => ?_⟩) (by assumption) ?_
       rotate_left
       ·(go_simp; rfl)
       simp only [Act.put, lTA, lC0, lCS]
       refine wpAnyH_take (i := 7) (oi := ⟨some 48, _, _, _, _, _⟩) (v := ?ve23) rfl (by kernel_rfl) (by kernel_rfl) (by kernel_rfl) (fun _ _ _ h => h) (Or.inl ⟨by kernel_rfl, fun w hSw => ?_⟩) (by assumption) ?_
       rotate_left
       ·(go_simp; rfl)
       simp only [Act.put, lTA, lC0, lCS]
       refine wpAnyH_take (i := 8) (oi := ⟨some 49, _, _, _, _, _⟩) (v := ?ve24) rfl (by kernel_rfl) (by kernel_rfl) (by kernel_rfl) (fun _ _ _ h => h) (Or.inl ⟨by kernel_rfl, fun w hSw => ?_⟩) (by assumption) ?_
       rotate_left
       ·(go_simp; rfl)
       simp only [Act.put, lTA, lC0, lCS]
       refine wpAnyH_ready (rs := [10]) (by kernel_rfl) (by simp) ?_
       refine AllReadyH.cons rfl (fun K hK => ?_) AllReadyH.nil
       go_simp
       obtain ⟨xb, hxb⟩ : ∃ x, x = v19.heap.size := ⟨_, rfl⟩
       have hxbl : wr.heap.size <= xb := by rw [hxb]; exact HBv19.out.size
       have hal : Below v19.heap.size v19 (v19.alloc (.cells #[.int .i64 0, .int .i64 0, .int .i64 0, .bool false, .string ⟨#[]⟩, .slice none 0 0] 41)) := (Below.refl _ _).alloc (Nat.le_refl _) (.cells #[.int .i64 0, .int .i64 0, .int .i64 0, .bool false, .string ⟨#[]⟩, .slice none 0 0] 41)
       have HBv20 := lhi (HBv19.out.alloc HBv19.out.size (.cells #[.int .i64 0, .int .i64 0, .int .i64 0, .bool false, .string ⟨#[]⟩, .slice none 0 0] 41))
       have HXv20 := lhi (Blk.newAt v19 41 #[.int .i64 0, .int .i64 0, .int .i64 0, .bool false, .string ⟨#[]⟩, .slice none 0 0] hxb)
       have HOv20 := lhi (Blk.of_heap ((hal).block _ HOv19.out.lt) HOv19.out)
       have HVv20 := lhi (HVv19.out.below (hal))
       show K _ (v19.alloc (.cells #[.int .i64 0, .int .i64 0, .int .i64 0, .bool false, .string ⟨#[]⟩, .slice none 0 0] 41))
       refine hK.out _ _ HBv20.out (fun hHeld => ?_)
       clear hK K hal
       rw [<- hxb]
       clear hxb
       generalize v19.alloc (.cells #[.int .i64 0, .int .i64 0, .int .i64 0, .bool false, .string ⟨#[]⟩, .slice none 0 0] 41) = v20 at *
       have hox : ob ≠ xb := Blk.ne_ HOv20.out HXv20.out (by decide)
       have hxo := Ne.symm hox
       have hsbl := HSB.out.lt
       have HR := lhi (mk_round (k := k) (j := j) HWR.out HBv20.out HOv20.out HXv20.out hobl hxbl hox (by omega) (by omega) HSB.out HVv20.out (.slice A1 n1 cap1) (.slice O1 no1 ocap1) (.slice M1 nm1 mcap1) ⟨_, _, _, rfl⟩ ⟨_, _, _, rfl⟩ ⟨_, _, _, rfl⟩)
       obtain ⟨⟨z0, z1, z2⟩, y0, y1, y2⟩ := blk3c HOv20.out
       refine wpAnyH_ready (rs := [11]) (by kernel_rfl) (by simp) ?_
       refine AllReadyH.cons rfl (fun K hK => ?_) AllReadyH.nil
       go_simp
       show K _ (w3F v20 ob (.slice A1 n1 cap1) (.slice O1 no1 ocap1) (.slice M1 nm1 mcap1))
       refine hK.out _ _ (HR.out.b3) (fun hHeld => ?_)
       clear hK K
       obtain ⟨⟨r0, r1, r2, r3, r4, r5⟩, l0, l1, l2, l3, l4, l5⟩ := blk6c HR.out.x3
       refine wpAnyH_ready (rs := [12]) (by kernel_rfl) (by simp) ?_
       refine AllReadyH.cons rfl (fun K hK => ?_) AllReadyH.nil
       go_simp
       show K _ (w9F v20 ob xb (.slice A1 n1 cap1) (.slice O1 no1 ocap1) (.slice M1 nm1 mcap1))
       refine hK.out _ _ (HR.out.b9) (fun hHeld => ?_)
       clear hK K
       have HEND := lhi HR.out.r
       clear HR z0 z1 z2 y0 y1 y2 r0 r1 r2 r3 r4 r5 l0 l1 l2 l3 l4 l5 hHeld
       generalize (w9F v20 ob xb (.slice A1 n1 cap1) (.slice O1 no1 ocap1) (.slice M1 nm1 mcap1)) = wz at *
       refine wpAnyH_done (by kernel_rfl) ?_ _
       go_wp2_with (fail)
       go_meet
       case rel => exact HEND.out
      ·go_simp
       obtain ⟨xb, hxb⟩ : ∃ x, x = v18.heap.size := ⟨_, rfl⟩
       have hxbl : wr.heap.size <= xb := by rw [hxb]; exact HBv18.out.size
       have hal : Below v18.heap.size v18 (v18.alloc (.cells #[.int .i64 0, .int .i64 0, .int .i64 0, .bool false, .string ⟨#[]⟩, .slice none 0 0] 41)) := (Below.refl _ _).alloc (Nat.le_refl _) (.cells #[.int .i64 0, .int .i64 0, .int .i64 0, .bool false, .string ⟨#[]⟩, .slice none 0 0] 41)
       have HBv21 := lhi (HBv18.out.alloc HBv18.out.size (.cells #[.int .i64 0, .int .i64 0, .int .i64 0, .bool false, .string ⟨#[]⟩, .slice none 0 0] 41))
       have HXv21 := lhi (Blk.newAt v18 41 #[.int .i64 0, .int .i64 0, .int .i64 0, .bool false, .string ⟨#[]⟩, .slice none 0 0] hxb)
       have HOv21 := lhi (Blk.of_heap ((hal).block _ HOv18.out.lt) HOv18.out)
       show K _ (v18.alloc (.cells #[.int .i64 0, .int .i64 0, .int .i64 0, .bool false, .string ⟨#[]⟩, .slice none 0 0] 41))
       refine hK.out _ _ HBv21.out (fun hHeld => ?_)
       clear hK K hal
       rw [<- hxb]
       clear hxb
       generalize v18.alloc (.cells #[.int .i64 0, .int .i64 0, .int .i64 0, .bool false, .string ⟨#[]⟩, .slice none 0 0] 41) = v21 at *
       refine wpAnyH_ready (rs := [5]) (by kernel_rfl) (by simp) ?_
       refine AllReadyH.cons rfl (fun K hK => ?_) AllReadyH.nil
       go_simp
       refine (HDO.out v21 HBv21.out).mono ?_
       rintro e v22 ⟨⟨iv1, ov1, mv1, ev1, rfl, hV1⟩, hB1⟩
       obtain ⟨A1, cap1, rfl⟩ := hV1.ino.at'.form
       obtain ⟨O1, ocap1, rfl⟩ := hV1.opn.at'.form
       obtain ⟨M1, mcap1, rfl⟩ := hV1.mad.at'.form
       generalize (Sm k (j + 1)).inodes.length = n1 at hV1 ⊢
       generalize (Sm k (j + 1)).opens.length = no1 at hV1 ⊢
       generalize (Sm k (j + 1)).made.length = nm1 at hV1 ⊢
       have HBv22 := lhi (HBv21.out.trans (hB1.mono HBv21.out.size))
       have HVv22 := lhi hV1
       have HOv22 := lhi (Blk.of_heap ((hB1).block _ HOv21.out.lt) HOv21.out)
       have HXv22 := lhi (Blk.of_heap ((hB1).block _ HXv21.out.lt) HXv21.out)
       show K _ v22
       refine hK.out _ _ HBv22.out (fun hHeld => ?_)
       clear hK K hV1 hB1
       refine wpAnyH_take (i := 6) (oi := ⟨some 41, _, _, _, _, _⟩) (v := ?ve25) rfl (by kernel_rfl) (by kernel_rfl) (by kernel_rfl) (fun _ _ _ h => h) (Or.inl ⟨by kernel_rfl, fun w hSw => ?_⟩) (by assumption) ?_
       rotate_left
       ·(go_simp; rfl)
       simp only [Act.put, lTA, lC0, lCS]
       refine wpAnyH_take (i := 7) (oi := ⟨some 48, _, _, _, _, _⟩) (v := ?ve26) rfl (by kernel_rfl) (by kernel_rfl) (by kernel_rfl) (fun _ _ _ h => h) (Or.inl ⟨by kernel_rfl, fun w hSw => ?_⟩) (by assumption) ?_
       rotate_left
       ·(go_simp; rfl)
       simp only [Act.put, lTA, lC0, lCS]
       refine wpAnyH_take (i := 8) (oi := ⟨some 49, _, _, _, _, _⟩) (v := ?ve27) rfl (by kernel_rfl) (by kernel_rfl) (by kernel_rfl) (fun _ _ _ h => h) (Or.inl ⟨by kernel_rfl, fun w hSw => ?_⟩) (by assumption) ?_
       rotate_left
       ·(go_simp; rfl)
       simp only [Act.put, lTA, lC0, lCS]
       have hox : ob ≠ xb := Blk.ne_ HOv22.out HXv22.out (by decide)
       have hxo := Ne.symm hox
       have hsbl := HSB.out.lt
       have HR := lhi (mk_round (k := k) (j := j) HWR.out HBv22.out HOv22.out HXv22.out hobl hxbl hox (by omega) (by omega) HSB.out HVv22.out (.slice A1 n1 cap1) (.slice O1 no1 ocap1) (.slice M1 nm1 mcap1) ⟨_, _, _, rfl⟩ ⟨_, _, _, rfl⟩ ⟨_, _, _, rfl⟩)
       obtain ⟨⟨z0, z1, z2⟩, y0, y1, y2⟩ := blk3c HOv22.out
       refine wpAnyH_ready (rs := [11]) (by kernel_rfl) (by simp) ?_
       refine AllReadyH.cons rfl (fun K hK => ?_) AllReadyH.nil
       go_simp
       show K _ (w3F v22 ob (.slice A1 n1 cap1) (.slice O1 no1 ocap1) (.slice M1 nm1 mcap1))
       refine hK.out _ _ (HR.out.b3) (fun hHeld => ?_)
       clear hK K
       obtain ⟨⟨r0, r1, r2, r3, r4, r5⟩, l0, l1, l2, l3, l4, l5⟩ := blk6c HR.out.x3
       refine wpAnyH_ready (rs := [12]) (by kernel_rfl) (by simp) ?_
       refine AllReadyH.cons rfl (fun K hK => ?_) AllReadyH.nil
       go_simp
       show K _ (w9F v22 ob xb (.slice A1 n1 cap1) (.slice O1 no1 ocap1) (.slice M1 nm1 mcap1))
       refine hK.out _ _ (HR.out.b9) (fun hHeld => ?_)
       clear hK K
       have HEND := lhi HR.out.r
       clear HR z0 z1 z2 y0 y1 y2 r0 r1 r2 r3 r4 r5 l0 l1 l2 l3 l4 l5 hHeld
       generalize (w9F v22 ob xb (.slice A1 n1 cap1) (.slice O1 no1 ocap1) (.slice M1 nm1 mcap1)) = wz at *
       refine wpAnyH_done (by kernel_rfl) ?_ _
       go_wp2_with (fail)
       go_meet
       case rel => exact HEND.out
     ·go_simp
      obtain ⟨xb, hxb⟩ : ∃ x, x = v17.heap.size := ⟨_, rfl⟩
      have hxbl : wr.heap.size <= xb := by rw [hxb]; exact HBv17.out.size
      have hal : Below v17.heap.size v17 (v17.alloc (.cells #[.int .i64 0, .int .i64 0, .int .i64 0, .bool false, .string ⟨#[]⟩, .slice none 0 0] 41)) := (Below.refl _ _).alloc (Nat.le_refl _) (.cells #[.int .i64 0, .int .i64 0, .int .i64 0, .bool false, .string ⟨#[]⟩, .slice none 0 0] 41)
      have HBv23 := lhi (HBv17.out.alloc HBv17.out.size (.cells #[.int .i64 0, .int .i64 0, .int .i64 0, .bool false, .string ⟨#[]⟩, .slice none 0 0] 41))
      have HXv23 := lhi (Blk.newAt v17 41 #[.int .i64 0, .int .i64 0, .int .i64 0, .bool false, .string ⟨#[]⟩, .slice none 0 0] hxb)
      have HOv23 := lhi (Blk.of_heap ((hal).block _ HOv17.out.lt) HOv17.out)
      show K _ (v17.alloc (.cells #[.int .i64 0, .int .i64 0, .int .i64 0, .bool false, .string ⟨#[]⟩, .slice none 0 0] 41))
      refine hK.out _ _ HBv23.out (fun hHeld => ?_)
      clear hK K hal
      rw [<- hxb]
      clear hxb
      generalize v17.alloc (.cells #[.int .i64 0, .int .i64 0, .int .i64 0, .bool false, .string ⟨#[]⟩, .slice none 0 0] 41) = v23 at *
      refine wpAnyH_ready (rs := [2]) (by kernel_rfl) (by simp) ?_
      refine AllReadyH.cons rfl (fun K hK => ?_) AllReadyH.nil
      go_simp
      refine (decimal_calls j (by omega) _).mono ?_
      rintro e v24 ⟨rfl, hB1⟩
      rw [hdj]
      have HBv24 := lhi (HBv23.out.trans (hB1.mono HBv23.out.size))
      have HOv24 := lhi (Blk.of_heap ((hB1).block _ HOv23.out.lt) HOv23.out)
      have HXv24 := lhi (Blk.of_heap ((hB1).block _ HXv23.out.lt) HXv23.out)
      show K _ v24
      refine hK.out _ _ HBv24.out (fun hHeld => ?_)
      clear hK K hB1
      refine wpAnyH_take (i := 3) (oi := ⟨some 45, _, _, _, _, _⟩) (v := ?ve28) rfl (by kernel_rfl) (by kernel_rfl) (by kernel_rfl) (fun _ _ _ h => h) (Or.inl ⟨by kernel_rfl, fun w hSw => ?_⟩) (by assumption) ?_
      rotate_left
      ·(go_simp; rfl)
      simp only [Act.put, lTA, lC0, lCS]
      refine wpAnyH_take (i := 4) (oi := ⟨some 46, _, _, _, _, _⟩) (v := ?ve29) rfl (by kernel_rfl) (by kernel_rfl) (by kernel_rfl) (fun _ _ _ h => h) (Or.inl ⟨by kernel_rfl, fun w hSw => ?_⟩) (by assumption) ?_
      rotate_left
      ·(go_simp; rfl)
      simp only [Act.put, lTA, lC0, lCS]
      refine wpAnyH_ready (rs := [5]) (by kernel_rfl) (by simp) ?_
      refine AllReadyH.cons rfl (fun K hK => ?_) AllReadyH.nil
      go_simp
      refine (HDO.out v24 HBv24.out).mono ?_
      rintro e v25 ⟨⟨iv1, ov1, mv1, ev1, rfl, hV1⟩, hB1⟩
      obtain ⟨A1, cap1, rfl⟩ := hV1.ino.at'.form
      obtain ⟨O1, ocap1, rfl⟩ := hV1.opn.at'.form
      obtain ⟨M1, mcap1, rfl⟩ := hV1.mad.at'.form
      generalize (Sm k (j + 1)).inodes.length = n1 at hV1 ⊢
      generalize (Sm k (j + 1)).opens.length = no1 at hV1 ⊢
      generalize (Sm k (j + 1)).made.length = nm1 at hV1 ⊢
      have HBv25 := lhi (HBv24.out.trans (hB1.mono HBv24.out.size))
      have HVv25 := lhi hV1
      have HOv25 := lhi (Blk.of_heap ((hB1).block _ HOv24.out.lt) HOv24.out)
      have HXv25 := lhi (Blk.of_heap ((hB1).block _ HXv24.out.lt) HXv24.out)
      show K _ v25
      refine hK.out _ _ HBv25.out (fun hHeld => ?_)
      clear hK K hV1 hB1
      refine wpAnyH_take (i := 6) (oi := ⟨some 41, _, _, _, _, _⟩) (v := ?ve30) rfl (by kernel_rfl) (by kernel_rfl) (by kernel_rfl) (fun _ _ _ h => h) (Or.inl ⟨by kernel_rfl, fun w hSw => ?_⟩) (by assumption) ?_
      rotate_left
      ·(go_simp; rfl)
      simp only [Act.put, lTA, lC0, lCS]
      refine wpAnyH_take (i := 7) (oi := ⟨some 48, _, _, _, _, _⟩) (v := ?ve31) rfl (by kernel_rfl) (by kernel_rfl) (by kernel_rfl) (fun _ _ _ h => h) (Or.inl ⟨by kernel_rfl, fun w hSw => ?_⟩) (by assumption) ?_
      rotate_left
      ·(go_simp; rfl)
      simp only [Act.put, lTA, lC0, lCS]
      refine wpAnyH_take (i := 8) (oi := ⟨some 49, _, _, _, _, _⟩) (v := ?ve32) rfl (by kernel_rfl) (by kernel_rfl) (by kernel_rfl) (fun _ _ _ h => h) (Or.inl ⟨by kernel_rfl, fun w hSw => ?_⟩) (by assumption) ?_
      rotate_left
      ·(go_simp; rfl)
      simp only [Act.put, lTA, lC0, lCS]
      have hox : ob ≠ xb := Blk.ne_ HOv25.out HXv25.out (by decide)
      have hxo := Ne.symm hox
      have hsbl := HSB.out.lt
      have HR := lhi (mk_round (k := k) (j := j) HWR.out HBv25.out HOv25.out HXv25.out hobl hxbl hox (by omega) (by omega) HSB.out HVv25.out (.slice A1 n1 cap1) (.slice O1 no1 ocap1) (.slice M1 nm1 mcap1) ⟨_, _, _, rfl⟩ ⟨_, _, _, rfl⟩ ⟨_, _, _, rfl⟩)
      obtain ⟨⟨z0, z1, z2⟩, y0, y1, y2⟩ := blk3c HOv25.out
      refine wpAnyH_ready (rs := [11]) (by kernel_rfl) (by simp) ?_
      refine AllReadyH.cons rfl (fun K hK => ?_) AllReadyH.nil
      go_simp
      show K _ (w3F v25 ob (.slice A1 n1 cap1) (.slice O1 no1 ocap1) (.slice M1 nm1 mcap1))
      refine hK.out _ _ (HR.out.b3) (fun hHeld => ?_)
      clear hK K
      obtain ⟨⟨r0, r1, r2, r3, r4, r5⟩, l0, l1, l2, l3, l4, l5⟩ := blk6c HR.out.x3
      refine wpAnyH_ready (rs := [12]) (by kernel_rfl) (by simp) ?_
      refine AllReadyH.cons rfl (fun K hK => ?_) AllReadyH.nil
      go_simp
      show K _ (w9F v25 ob xb (.slice A1 n1 cap1) (.slice O1 no1 ocap1) (.slice M1 nm1 mcap1))
      refine hK.out _ _ (HR.out.b9) (fun hHeld => ?_)
      clear hK K
      have HEND := lhi HR.out.r
      clear HR z0 z1 z2 y0 y1 y2 r0 r1 r2 r3 r4 r5 l0 l1 l2 l3 l4 l5 hHeld
      generalize (w9F v25 ob xb (.slice A1 n1 cap1) (.slice O1 no1 ocap1) (.slice M1 nm1 mcap1)) = wz at *
      refine wpAnyH_done (by kernel_rfl) ?_ _
      go_wp2_with (fail)
      go_meet
      case rel => exact HEND.out
    ·go_simp
     obtain ⟨xb, hxb⟩ : ∃ x, x = v0.heap.size := ⟨_, rfl⟩
     have hxbl : wr.heap.size <= xb := by rw [hxb]; exact HBv0.out.size
     have hal : Below v0.heap.size v0 (v0.alloc (.cells #[.int .i64 0, .int .i64 0, .int .i64 0, .bool false, .string ⟨#[]⟩, .slice none 0 0] 41)) := (Below.refl _ _).alloc (Nat.le_refl _) (.cells #[.int .i64 0, .int .i64 0, .int .i64 0, .bool false, .string ⟨#[]⟩, .slice none 0 0] 41)
     have HBv26 := lhi (HBv0.out.alloc HBv0.out.size (.cells #[.int .i64 0, .int .i64 0, .int .i64 0, .bool false, .string ⟨#[]⟩, .slice none 0 0] 41))
     have HXv26 := lhi (Blk.newAt v0 41 #[.int .i64 0, .int .i64 0, .int .i64 0, .bool false, .string ⟨#[]⟩, .slice none 0 0] hxb)
     show K _ (v0.alloc (.cells #[.int .i64 0, .int .i64 0, .int .i64 0, .bool false, .string ⟨#[]⟩, .slice none 0 0] 41))
     refine hK.out _ _ HBv26.out (fun hHeld => ?_)
     clear hK K hal
     rw [<- hxb]
     clear hxb
     generalize v0.alloc (.cells #[.int .i64 0, .int .i64 0, .int .i64 0, .bool false, .string ⟨#[]⟩, .slice none 0 0] 41) = v26 at *
     refine wpAnyH_ready (rs := [2, 9]) (by kernel_rfl) (by simp) ?_
     refine AllReadyH.cons rfl (fun K hK => ?_) (AllReadyH.cons rfl (fun K hK => ?_) AllReadyH.nil)
     ·go_simp
      refine (decimal_calls j (by omega) _).mono ?_
      rintro e v27 ⟨rfl, hB1⟩
      rw [hdj]
      have HBv27 := lhi (HBv26.out.trans (hB1.mono HBv26.out.size))
      have HXv27 := lhi (Blk.of_heap ((hB1).block _ HXv26.out.lt) HXv26.out)
      show K _ v27
      refine hK.out _ _ HBv27.out (fun hHeld => ?_)
      clear hK K hB1
      refine wpAnyH_take (i := 3) (oi := ⟨some 45, _, _, _, _, _⟩) (v := ?ve33) rfl (by kernel_rfl) (by kernel_rfl) (by kernel_rfl) (fun _ _ _ h => h) (Or.inl ⟨by kernel_rfl, fun w hSw => ?_⟩) (by assumption) ?_
      rotate_left
      ·(go_simp; rfl)
      simp only [Act.put, lTA, lC0, lCS]
      refine wpAnyH_take (i := 4) (oi := ⟨some 46, _, _, _, _, _⟩) (v := ?ve34) rfl (by kernel_rfl) (by kernel_rfl) (by kernel_rfl) (fun _ _ _ h => h) (Or.inl ⟨by kernel_rfl, fun w hSw => ?_⟩) (by assumption) ?_
      rotate_left
      ·(go_simp; rfl)
      simp only [Act.put, lTA, lC0, lCS]
      refine wpAnyH_ready (rs := [5, 9]) (by kernel_rfl) (by simp) ?_
      refine AllReadyH.cons rfl (fun K hK => ?_) (AllReadyH.cons rfl (fun K hK => ?_) AllReadyH.nil)
      ·go_simp
       refine (HDO.out v27 HBv27.out).mono ?_
       rintro e v28 ⟨⟨iv1, ov1, mv1, ev1, rfl, hV1⟩, hB1⟩
       obtain ⟨A1, cap1, rfl⟩ := hV1.ino.at'.form
       obtain ⟨O1, ocap1, rfl⟩ := hV1.opn.at'.form
       obtain ⟨M1, mcap1, rfl⟩ := hV1.mad.at'.form
       generalize (Sm k (j + 1)).inodes.length = n1 at hV1 ⊢
       generalize (Sm k (j + 1)).opens.length = no1 at hV1 ⊢
       generalize (Sm k (j + 1)).made.length = nm1 at hV1 ⊢
       have HBv28 := lhi (HBv27.out.trans (hB1.mono HBv27.out.size))
       have HVv28 := lhi hV1
       have HXv28 := lhi (Blk.of_heap ((hB1).block _ HXv27.out.lt) HXv27.out)
       show K _ v28
       refine hK.out _ _ HBv28.out (fun hHeld => ?_)
       clear hK K hV1 hB1
       refine wpAnyH_take (i := 6) (oi := ⟨some 41, _, _, _, _, _⟩) (v := ?ve35) rfl (by kernel_rfl) (by kernel_rfl) (by kernel_rfl) (fun _ _ _ h => h) (Or.inl ⟨by kernel_rfl, fun w hSw => ?_⟩) (by assumption) ?_
       rotate_left
       ·(go_simp; rfl)
       simp only [Act.put, lTA, lC0, lCS]
       refine wpAnyH_take (i := 7) (oi := ⟨some 48, _, _, _, _, _⟩) (v := ?ve36) rfl (by kernel_rfl) (by kernel_rfl) (by kernel_rfl) (fun _ _ _ h => h) (Or.inl ⟨by kernel_rfl, fun w hSw => ?_⟩) (by assumption) ?_
       rotate_left
       ·(go_simp; rfl)
       simp only [Act.put, lTA, lC0, lCS]
       refine wpAnyH_take (i := 8) (oi := ⟨some 49, _, _, _, _, _⟩) (v := ?ve37) rfl (by kernel_rfl) (by kernel_rfl) (by kernel_rfl) (fun _ _ _ h => h) (Or.inl ⟨by kernel_rfl, fun w hSw => ?_⟩) (by assumption) ?_
       rotate_left
       ·(go_simp; rfl)
       simp only [Act.put, lTA, lC0, lCS]
       refine wpAnyH_ready (rs := [9]) (by kernel_rfl) (by simp) ?_
       refine AllReadyH.cons rfl (fun K hK => ?_) AllReadyH.nil
       go_simp
       obtain ⟨ob, hob⟩ : ∃ x, x = v28.heap.size := ⟨_, rfl⟩
       have hobl : wr.heap.size <= ob := by rw [hob]; exact HBv28.out.size
       have hal : Below v28.heap.size v28 (v28.alloc (.cells #[.slice none 0 0, .slice none 0 0, .slice none 0 0] 30)) := (Below.refl _ _).alloc (Nat.le_refl _) (.cells #[.slice none 0 0, .slice none 0 0, .slice none 0 0] 30)
       have HBv29 := lhi (HBv28.out.alloc HBv28.out.size (.cells #[.slice none 0 0, .slice none 0 0, .slice none 0 0] 30))
       have HOv29 := lhi (Blk.newAt v28 30 #[.slice none 0 0, .slice none 0 0, .slice none 0 0] hob)
       have HXv29 := lhi (Blk.of_heap ((hal).block _ HXv28.out.lt) HXv28.out)
       have HVv29 := lhi (HVv28.out.below (hal))
       show K _ (v28.alloc (.cells #[.slice none 0 0, .slice none 0 0, .slice none 0 0] 30))
       refine hK.out _ _ HBv29.out (fun hHeld => ?_)
       clear hK K hal
       rw [<- hob]
       clear hob
       generalize v28.alloc (.cells #[.slice none 0 0, .slice none 0 0, .slice none 0 0] 30) = v29 at *
       have hox : ob ≠ xb := Blk.ne_ HOv29.out HXv29.out (by decide)
       have hxo := Ne.symm hox
       have hsbl := HSB.out.lt
       have HR := lhi (mk_round (k := k) (j := j) HWR.out HBv29.out HOv29.out HXv29.out hobl hxbl hox (by omega) (by omega) HSB.out HVv29.out (.slice A1 n1 cap1) (.slice O1 no1 ocap1) (.slice M1 nm1 mcap1) ⟨_, _, _, rfl⟩ ⟨_, _, _, rfl⟩ ⟨_, _, _, rfl⟩)
       obtain ⟨⟨z0, z1, z2⟩, y0, y1, y2⟩ := blk3c HOv29.out
       refine wpAnyH_ready (rs := [11]) (by kernel_rfl) (by simp) ?_
       refine AllReadyH.cons rfl (fun K hK => ?_) AllReadyH.nil
       go_simp
       show K _ (w3F v29 ob (.slice A1 n1 cap1) (.slice O1 no1 ocap1) (.slice M1 nm1 mcap1))
       refine hK.out _ _ (HR.out.b3) (fun hHeld => ?_)
       clear hK K
       obtain ⟨⟨r0, r1, r2, r3, r4, r5⟩, l0, l1, l2, l3, l4, l5⟩ := blk6c HR.out.x3
       refine wpAnyH_ready (rs := [12]) (by kernel_rfl) (by simp) ?_
       refine AllReadyH.cons rfl (fun K hK => ?_) AllReadyH.nil
       go_simp
       show K _ (w9F v29 ob xb (.slice A1 n1 cap1) (.slice O1 no1 ocap1) (.slice M1 nm1 mcap1))
       refine hK.out _ _ (HR.out.b9) (fun hHeld => ?_)
       clear hK K
       have HEND := lhi HR.out.r
       clear HR z0 z1 z2 y0 y1 y2 r0 r1 r2 r3 r4 r5 l0 l1 l2 l3 l4 l5 hHeld
       generalize (w9F v29 ob xb (.slice A1 n1 cap1) (.slice O1 no1 ocap1) (.slice M1 nm1 mcap1)) = wz at *
       refine wpAnyH_done (by kernel_rfl) ?_ _
       go_wp2_with (fail)
       go_meet
       case rel => exact HEND.out
      ·go_simp
       obtain ⟨ob, hob⟩ : ∃ x, x = v27.heap.size := ⟨_, rfl⟩
       have hobl : wr.heap.size <= ob := by rw [hob]; exact HBv27.out.size
       have hal : Below v27.heap.size v27 (v27.alloc (.cells #[.slice none 0 0, .slice none 0 0, .slice none 0 0] 30)) := (Below.refl _ _).alloc (Nat.le_refl _) (.cells #[.slice none 0 0, .slice none 0 0, .slice none 0 0] 30)
       have HBv30 := lhi (HBv27.out.alloc HBv27.out.size (.cells #[.slice none 0 0, .slice none 0 0, .slice none 0 0] 30))
       have HOv30 := lhi (Blk.newAt v27 30 #[.slice none 0 0, .slice none 0 0, .slice none 0 0] hob)
       have HXv30 := lhi (Blk.of_heap ((hal).block _ HXv27.out.lt) HXv27.out)
       show K _ (v27.alloc (.cells #[.slice none 0 0, .slice none 0 0, .slice none 0 0] 30))
       refine hK.out _ _ HBv30.out (fun hHeld => ?_)
       clear hK K hal
       rw [<- hob]
       clear hob
       generalize v27.alloc (.cells #[.slice none 0 0, .slice none 0 0, .slice none 0 0] 30) = v30 at *
       refine wpAnyH_ready (rs := [5]) (by kernel_rfl) (by simp) ?_
       refine AllReadyH.cons rfl (fun K hK => ?_) AllReadyH.nil
       go_simp
       refine (HDO.out v30 HBv30.out).mono ?_
       rintro e v31 ⟨⟨iv1, ov1, mv1, ev1, rfl, hV1⟩, hB1⟩
       obtain ⟨A1, cap1, rfl⟩ := hV1.ino.at'.form
       obtain ⟨O1, ocap1, rfl⟩ := hV1.opn.at'.form
       obtain ⟨M1, mcap1, rfl⟩ := hV1.mad.at'.form
       generalize (Sm k (j + 1)).inodes.length = n1 at hV1 ⊢
       generalize (Sm k (j + 1)).opens.length = no1 at hV1 ⊢
       generalize (Sm k (j + 1)).made.length = nm1 at hV1 ⊢
       have HBv31 := lhi (HBv30.out.trans (hB1.mono HBv30.out.size))
       have HVv31 := lhi hV1
       have HOv31 := lhi (Blk.of_heap ((hB1).block _ HOv30.out.lt) HOv30.out)
       have HXv31 := lhi (Blk.of_heap ((hB1).block _ HXv30.out.lt) HXv30.out)
       show K _ v31
       refine hK.out _ _ HBv31.out (fun hHeld => ?_)
       clear hK K hV1 hB1
       refine wpAnyH_take (i := 6) (oi := ⟨some 41, _, _, _, _, _⟩) (v := ?ve38) rfl (by kernel_rfl) (by kernel_rfl) (by kernel_rfl) (fun _ _ _ h => h) (Or.inl ⟨by kernel_rfl, fun w hSw => ?_⟩) (by assumption) ?_
       rotate_left
       ·(go_simp; rfl)
       simp only [Act.put, lTA, lC0, lCS]
       refine wpAnyH_take (i := 7) (oi := ⟨some 48, _, _, _, _, _⟩) (v := ?ve39) rfl (by kernel_rfl) (by kernel_rfl) (by kernel_rfl) (fun _ _ _ h => h) (Or.inl ⟨by kernel_rfl, fun w hSw => ?_⟩) (by assumption) ?_
       rotate_left
       ·(go_simp; rfl)
       simp only [Act.put, lTA, lC0, lCS]
       refine wpAnyH_take (i := 8) (oi := ⟨some 49, _, _, _, _, _⟩) (v := ?ve40) rfl (by kernel_rfl) (by kernel_rfl) (by kernel_rfl) (fun _ _ _ h => h) (Or.inl ⟨by kernel_rfl, fun w hSw => ?_⟩) (by assumption) ?_
       rotate_left
       ·(go_simp; rfl)
       simp only [Act.put, lTA, lC0, lCS]
       have hox : ob ≠ xb := Blk.ne_ HOv31.out HXv31.out (by decide)
       have hxo := Ne.symm hox
       have hsbl := HSB.out.lt
       have HR := lhi (mk_round (k := k) (j := j) HWR.out HBv31.out HOv31.out HXv31.out hobl hxbl hox (by omega) (by omega) HSB.out HVv31.out (.slice A1 n1 cap1) (.slice O1 no1 ocap1) (.slice M1 nm1 mcap1) ⟨_, _, _, rfl⟩ ⟨_, _, _, rfl⟩ ⟨_, _, _, rfl⟩)
       obtain ⟨⟨z0, z1, z2⟩, y0, y1, y2⟩ := blk3c HOv31.out
       refine wpAnyH_ready (rs := [11]) (by kernel_rfl) (by simp) ?_
       refine AllReadyH.cons rfl (fun K hK => ?_) AllReadyH.nil
       go_simp
       show K _ (w3F v31 ob (.slice A1 n1 cap1) (.slice O1 no1 ocap1) (.slice M1 nm1 mcap1))
       refine hK.out _ _ (HR.out.b3) (fun hHeld => ?_)
       clear hK K
       obtain ⟨⟨r0, r1, r2, r3, r4, r5⟩, l0, l1, l2, l3, l4, l5⟩ := blk6c HR.out.x3
       refine wpAnyH_ready (rs := [12]) (by kernel_rfl) (by simp) ?_
       refine AllReadyH.cons rfl (fun K hK => ?_) AllReadyH.nil
       go_simp
       show K _ (w9F v31 ob xb (.slice A1 n1 cap1) (.slice O1 no1 ocap1) (.slice M1 nm1 mcap1))
       refine hK.out _ _ (HR.out.b9) (fun hHeld => ?_)
       clear hK K
       have HEND := lhi HR.out.r
       clear HR z0 z1 z2 y0 y1 y2 r0 r1 r2 r3 r4 r5 l0 l1 l2 l3 l4 l5 hHeld
       generalize (w9F v31 ob xb (.slice A1 n1 cap1) (.slice O1 no1 ocap1) (.slice M1 nm1 mcap1)) = wz at *
       refine wpAnyH_done (by kernel_rfl) ?_ _
       go_wp2_with (fail)
       go_meet
       case rel => exact HEND.out
     ·go_simp
      obtain ⟨ob, hob⟩ : ∃ x, x = v26.heap.size := ⟨_, rfl⟩
      have hobl : wr.heap.size <= ob := by rw [hob]; exact HBv26.out.size
      have hal : Below v26.heap.size v26 (v26.alloc (.cells #[.slice none 0 0, .slice none 0 0, .slice none 0 0] 30)) := (Below.refl _ _).alloc (Nat.le_refl _) (.cells #[.slice none 0 0, .slice none 0 0, .slice none 0 0] 30)
      have HBv32 := lhi (HBv26.out.alloc HBv26.out.size (.cells #[.slice none 0 0, .slice none 0 0, .slice none 0 0] 30))
      have HOv32 := lhi (Blk.newAt v26 30 #[.slice none 0 0, .slice none 0 0, .slice none 0 0] hob)
      have HXv32 := lhi (Blk.of_heap ((hal).block _ HXv26.out.lt) HXv26.out)
      show K _ (v26.alloc (.cells #[.slice none 0 0, .slice none 0 0, .slice none 0 0] 30))
      refine hK.out _ _ HBv32.out (fun hHeld => ?_)
      clear hK K hal
      rw [<- hob]
      clear hob
      generalize v26.alloc (.cells #[.slice none 0 0, .slice none 0 0, .slice none 0 0] 30) = v32 at *
      refine wpAnyH_ready (rs := [2]) (by kernel_rfl) (by simp) ?_
      refine AllReadyH.cons rfl (fun K hK => ?_) AllReadyH.nil
      go_simp
      refine (decimal_calls j (by omega) _).mono ?_
      rintro e v33 ⟨rfl, hB1⟩
      rw [hdj]
      have HBv33 := lhi (HBv32.out.trans (hB1.mono HBv32.out.size))
      have HOv33 := lhi (Blk.of_heap ((hB1).block _ HOv32.out.lt) HOv32.out)
      have HXv33 := lhi (Blk.of_heap ((hB1).block _ HXv32.out.lt) HXv32.out)
      show K _ v33
      refine hK.out _ _ HBv33.out (fun hHeld => ?_)
      clear hK K hB1
      refine wpAnyH_take (i := 3) (oi := ⟨some 45, _, _, _, _, _⟩) (v := ?ve41) rfl (by kernel_rfl) (by kernel_rfl) (by kernel_rfl) (fun _ _ _ h => h) (Or.inl ⟨by kernel_rfl, fun w hSw => ?_⟩) (by assumption) ?_
      rotate_left
      ·(go_simp; rfl)
      simp only [Act.put, lTA, lC0, lCS]
      refine wpAnyH_take (i := 4) (oi := ⟨some 46, _, _, _, _, _⟩) (v := ?ve42) rfl (by kernel_rfl) (by kernel_rfl) (by kernel_rfl) (fun _ _ _ h => h) (Or.inl ⟨by kernel_rfl, fun w hSw => ?_⟩) (by assumption) ?_
      rotate_left
      ·(go_simp; rfl)
      simp only [Act.put, lTA, lC0, lCS]
      refine wpAnyH_ready (rs := [5]) (by kernel_rfl) (by simp) ?_
      refine AllReadyH.cons rfl (fun K hK => ?_) AllReadyH.nil
      go_simp
      refine (HDO.out v33 HBv33.out).mono ?_
      rintro e v34 ⟨⟨iv1, ov1, mv1, ev1, rfl, hV1⟩, hB1⟩
      obtain ⟨A1, cap1, rfl⟩ := hV1.ino.at'.form
      obtain ⟨O1, ocap1, rfl⟩ := hV1.opn.at'.form
      obtain ⟨M1, mcap1, rfl⟩ := hV1.mad.at'.form
      generalize (Sm k (j + 1)).inodes.length = n1 at hV1 ⊢
      generalize (Sm k (j + 1)).opens.length = no1 at hV1 ⊢
      generalize (Sm k (j + 1)).made.length = nm1 at hV1 ⊢
      have HBv34 := lhi (HBv33.out.trans (hB1.mono HBv33.out.size))
      have HVv34 := lhi hV1
      have HOv34 := lhi (Blk.of_heap ((hB1).block _ HOv33.out.lt) HOv33.out)
      have HXv34 := lhi (Blk.of_heap ((hB1).block _ HXv33.out.lt) HXv33.out)
      show K _ v34
      refine hK.out _ _ HBv34.out (fun hHeld => ?_)
      clear hK K hV1 hB1
      refine wpAnyH_take (i := 6) (oi := ⟨some 41, _, _, _, _, _⟩) (v := ?ve43) rfl (by kernel_rfl) (by kernel_rfl) (by kernel_rfl) (fun _ _ _ h => h) (Or.inl ⟨by kernel_rfl, fun w hSw => ?_⟩) (by assumption) ?_
      rotate_left
      ·(go_simp; rfl)
      simp only [Act.put, lTA, lC0, lCS]
      refine wpAnyH_take (i := 7) (oi := ⟨some 48, _, _, _, _, _⟩) (v := ?ve44) rfl (by kernel_rfl) (by kernel_rfl) (by kernel_rfl) (fun _ _ _ h => h) (Or.inl ⟨by kernel_rfl, fun w hSw => ?_⟩) (by assumption) ?_
      rotate_left
      ·(go_simp; rfl)
      simp only [Act.put, lTA, lC0, lCS]
      refine wpAnyH_take (i := 8) (oi := ⟨some 49, _, _, _, _, _⟩) (v := ?ve45) rfl (by kernel_rfl) (by kernel_rfl) (by kernel_rfl) (fun _ _ _ h => h) (Or.inl ⟨by kernel_rfl, fun w hSw => ?_⟩) (by assumption) ?_
      rotate_left
      ·(go_simp; rfl)
      simp only [Act.put, lTA, lC0, lCS]
      have hox : ob ≠ xb := Blk.ne_ HOv34.out HXv34.out (by decide)
      have hxo := Ne.symm hox
      have hsbl := HSB.out.lt
      have HR := lhi (mk_round (k := k) (j := j) HWR.out HBv34.out HOv34.out HXv34.out hobl hxbl hox (by omega) (by omega) HSB.out HVv34.out (.slice A1 n1 cap1) (.slice O1 no1 ocap1) (.slice M1 nm1 mcap1) ⟨_, _, _, rfl⟩ ⟨_, _, _, rfl⟩ ⟨_, _, _, rfl⟩)
      obtain ⟨⟨z0, z1, z2⟩, y0, y1, y2⟩ := blk3c HOv34.out
      refine wpAnyH_ready (rs := [11]) (by kernel_rfl) (by simp) ?_
      refine AllReadyH.cons rfl (fun K hK => ?_) AllReadyH.nil
      go_simp
      show K _ (w3F v34 ob (.slice A1 n1 cap1) (.slice O1 no1 ocap1) (.slice M1 nm1 mcap1))
      refine hK.out _ _ (HR.out.b3) (fun hHeld => ?_)
      clear hK K
      obtain ⟨⟨r0, r1, r2, r3, r4, r5⟩, l0, l1, l2, l3, l4, l5⟩ := blk6c HR.out.x3
      refine wpAnyH_ready (rs := [12]) (by kernel_rfl) (by simp) ?_
      refine AllReadyH.cons rfl (fun K hK => ?_) AllReadyH.nil
      go_simp
      show K _ (w9F v34 ob xb (.slice A1 n1 cap1) (.slice O1 no1 ocap1) (.slice M1 nm1 mcap1))
      refine hK.out _ _ (HR.out.b9) (fun hHeld => ?_)
      clear hK K
      have HEND := lhi HR.out.r
      clear HR z0 z1 z2 y0 y1 y2 r0 r1 r2 r3 r4 r5 l0 l1 l2 l3 l4 l5 hHeld
      generalize (w9F v34 ob xb (.slice A1 n1 cap1) (.slice O1 no1 ocap1) (.slice M1 nm1 mcap1)) = wz at *
      refine wpAnyH_done (by kernel_rfl) ?_ _
      go_wp2_with (fail)
      go_meet
      case rel => exact HEND.out
   case rest =>
    obtain ⟨ob, iv1, ov1, mv1, ev1, rfl, ⟨A1, n1, cap1, rfl⟩, ⟨O1, no1, ocap1, rfl⟩, ⟨M1, nm1, mcap1, rfl⟩, hO, hV, hS, hos, hb⟩ := hcut
    have HO := lhi hO
    have HV1 := lhi hV
    have HS1 := lhi hS
    have HBC := lhi hb
    have HSW := lhi hsw
    have o0 : wc.cell? ⟨ob, 0, none⟩ = some (.slice A1 n1 cap1) := hO.cell 0
    have o1 : wc.cell? ⟨ob, 1, none⟩ = some (.slice O1 no1 ocap1) := hO.cell 1
    have o2 : wc.cell? ⟨ob, 2, none⟩ = some (.slice M1 nm1 mcap1) := hO.cell 2
    have s0 : wc.cell? ⟨sb, 0, none⟩ = some (.slice A n cap) := hS.cell 0
    have s1 : wc.cell? ⟨sb, 1, none⟩ = some (.slice OA no ocap) := hS.cell 1
    have s2 : wc.cell? ⟨sb, 2, none⟩ = some (.slice MA nm mcap) := hS.cell 2
    have f0 := hS.frozen 0
    have f1 := hS.frozen 1
    have f2 := hS.frozen 2
    clear hO hV hS hb p0 p1 p2
    go_wp2_with (fail)
    go_roundw
    case rel =>
     have hS := HS1.out
     have S1 := hS.set_ 0 (.slice A1 n1 cap1)
     have S2 := S1.set_ 1 (.slice O1 no1 ocap1)
     have S3 := S2.set_ 2 (.slice M1 nm1 mcap1)
     have V3 := ((HV1.out.far hS (by decide) (by decide) (by decide) (by decide) 0 (.slice A1 n1 cap1)).far S1 (by decide) (by decide) (by decide) (by decide) 1 (.slice O1 no1 ocap1)).far S2 (by decide) (by decide) (by decide) (by decide) 2 (.slice M1 nm1 mcap1)
     exact ⟨j + 1, by go_num, by omega, _, _, _, ev1, ⟨_, _, _, rfl⟩, ⟨_, _, _, rfl⟩, ⟨_, _, _, rfl⟩, S3, V3, ((HBC.out.setCell (p := ⟨sb, 0, none⟩) HSW.out _).setCell (p := ⟨sb, 1, none⟩) HSW.out _).setCell (p := ⟨sb, 2, none⟩) HSW.out _, HSW.out⟩
    case measure =>
     simp only [intOf]
     omega
  ·obtain rfl : j = k := by omega
   have hkr := HK.out
   have HBD := lhi (show Bd (fun b => b < w.heap.size) wr from fun b hb => Nat.lt_of_lt_of_le hb HWR.out.size)
   have HLO := lhi (Load_ok HBD.out HV.out.stm (sm_inv HK.out j (Nat.le_refl _)))
   have hml : (Sm j j).made.length = j := by simp [Sm]; omega
   rw [hml] at HLO
   have HNU := lhi (fun (c : Int) (W : World) => num_calls c W)
   have hj0 : (0 : Int) <= j := by omega
   clear hml
   go_upto_region 13 with (first
    | (go_at_call 8; refine HLO.out.mono ?_; rintro e w5 ⟨fb, s, pb, rfl, hf5, hb5⟩; have HF5 := lhi hf5; have HB5 := lhi (HWR.out.trans (hb5.mono HWR.out.size)); clear hf5 hb5 HLO)
    | (go_at_call 9; refine (num_calls _ _).mono ?_; rintro e w' ⟨rfl, rfl⟩))
   clear p0 p1 p2
   go_upto_if 64 with (fail)
   go_cut [15] (fun s wx => s = .int .i64 (kindM dirs) /\ wx = w5)
   case first =>
    cases dirs
    ·go_wp2_with (fail)
     go_meet
     case rel => exact ⟨rfl, rfl⟩
    ·go_wp2_with (fail)
     go_meet
     case rel => exact ⟨rfl, rfl⟩
   case rest =>
    obtain ⟨rfl, rfl⟩ := hcut
    obtain ⟨kd, hkd⟩ : ∃ x, kindM dirs = x := ⟨_, rfl⟩
    have HKD := lhi hkd
    have hkr2 : 0 <= kd /\ kd <= 16 := by rw [<- hkd]; rcases kindM_or dirs with h | h <;> omega
    rw [hkd]
    clear hkd
    obtain ⟨w6, rfl⟩ : ∃ x, x = wc := ⟨_, rfl⟩
    go_upto_region 17 with (fail)
    go_loopw [16] (fun i wr => ∃ (c : Nat) (M : Mem) (ps : List PV), i = .int .i64 c /\ c <= j /\ FsAt (fun b => b < w.heap.size) wr fb s pb M ps /\ Qm j dirs (fun _ => true) M /\ ps.length = j /\ (∀ i (hi : i < ps.length), (i < c -> ps[i] = begP dirs i) /\ (c <= i -> ps[i] = idleP)) /\ Below w.heap.size w wr) (fun i _ => j - (intOf i).toNat)
    case atStart => exact ⟨0, _, _, rfl, by omega, HF5.out, qm_load hkr dirs, by simp, fun i hi => ⟨fun q => absurd q (by omega), fun _ => by simp⟩, HB5.out⟩
    case round =>
     obtain ⟨c, M, ps, rfl, hc, hf, hq, hpl, hps, hb⟩ := hrel
     have HF := lhi hf
     have HQ := lhi hq
     have HPS := lhi hps
     have HBR := lhi hb
     have HPL := lhi hpl
     clear hf hq hps hb HF5 HB5
     by_cases hcj : c < j
     ·have hc1 : (c : Int) < j := by omega
      have hcl : c < ps.length := by omega
      have HBG := lhi (fun (W : World) (hb : Below wr.heap.size wr W) => begin_ok (HF.out.below hb) hcl (c := callM dirs c) rfl (by show 0 <= kindM dirs /\ kindM dirs <= 16; rw [HKD.out]; exact hkr2) (by rw [(HPS.out c hcl).2 (Nat.le_refl _)]; rfl))
      simp only [CallV.cs, callM] at HBG
      rw [HKD.out] at HBG
      have hcat := (path_W (show c < 5 by omega)).2
      have hdz := dec_one (show c < 5 by omega)
      have HDC := lhi (decimal_calls c (by omega) wr)
      obtain ⟨dj, hdj⟩ : ∃ d, strD (dgs c) = d := ⟨_, rfl⟩
      rw [hdj] at hdz hcat HDC
      obtain ⟨pj, hpj⟩ : ∃ p, pathS c = p := ⟨_, rfl⟩
      rw [hpj] at HBG hcat
      have hdc : ¬ (9223372036854775807 < 2 + dj.size) := by omega
      have hdc2 : ¬ (9223372036854775807 < 2 + dj.size + 5) := by omega
      have HPJ := lhi hpj
      clear hdj hpj
      go_wp2_with (first
       | (go_at_call 16; refine HDC.out.mono ?_; rintro e w7 ⟨rfl, hb7⟩; have HB7 := lhi hb7; clear hb7)
       | (go_at_call 17; refine (HBG.out _ HB7.out).mono ?_; rintro e w8 ⟨rfl, hf8, hk8⟩; have HF8 := lhi hf8; have HK8 := lhi hk8; clear hf8 hk8)
       | (go_at_call 9; refine (num_calls _ _).mono ?_; rintro e w' ⟨rfl, rfl⟩))
      go_roundw
      case rel =>
       have hf := HF8.out
       have hkk : Below w.heap.size w7 w8 := ⟨HK8.out.k.os, HK8.out.k.tape, HK8.out.k.output, HK8.out.k.size, fun b hb => HK8.out.k.block b hb⟩
       refine ⟨c + 1, M.clear c, ps.set c (begP dirs c), by go_num, by omega, ?_, HQ.out.clear c, by rw [List.length_set]; exact HPL.out, fun i hi => ?_, (HBR.out.trans (HB7.out.mono HBR.out.size)).trans hkk⟩
       ·unfold begP callM
        rw [HKD.out, HPJ.out]
        exact hf
       ·have hi' : i < ps.length := by simpa using hi
        rw [List.getElem_set]
        by_cases e : c = i
        ·subst e
         rw [if_pos rfl]
         exact ⟨fun _ => rfl, fun q => absurd q (by omega)⟩
        ·rw [if_neg e]
         exact ⟨fun q => (HPS.out i hi').1 (by omega), fun q => (HPS.out i hi').2 (by omega)⟩
      case measure =>
       simp only [intOf]
       omega
     ·obtain rfl : c = j := by omega
      have HPM := lhi (show QM (fun b => b < w.heap.size) fb s pb c dirs (fun _ => true) wr from ⟨M, ps, HF.out, ⟨HPL.out, fun i hi => ⟨fun _ => (HPS.out i hi).1 (by have := HPL.out; omega), fun q => by cases q⟩⟩, HQ.out⟩)
      have HRN := lhi (round_calls (L := fun b => b < w.heap.size) (w := wr) (fb := fb) (s := s) (pb := pb) (n := c) (by omega) (fun b hb => Nat.lt_of_lt_of_le hb HBR.out.size) (QM (fun b => b < w.heap.size) fb s pb c dirs) (fun b W hq => by
        obtain ⟨M, ps, h1, h2, -⟩ := hq
        exact ⟨M, ps, h1, h2.busy, h2.1⟩) (fun b W W' hq hb => by
        obtain ⟨M, ps, h1, h2, h3⟩ := hq
        exact ⟨M, ps, h1.below hb, h2, h3⟩) (fun b W i hi hbi hq => qm_step HK.out hi hbi hq) (pv := .slice PA plen pcap) (np := plen) (Ints.len_le HX.out) (pk := fun i => nth xs i) (fun W hkp => ints_row HX.out HBR.out hkp) (fun i hi => by
        obtain ⟨g, off, -, -, h1, h2⟩ := HX.out.at_ hi HBR.out
        exact ⟨h1, h2⟩) (most := 8000) ⟨by omega, by omega⟩ HPM.out)
      go_upto_region 24 with (go_at_call 18; refine HRN.out.mono ?_; rintro e w7 ⟨rfl, ⟨b, hq, hb⟩, hk7⟩; have HQ7 := lhi hq; have HB7 := lhi hb; have HK7 := lhi hk7; clear hq hb hk7)
      obtain ⟨M7, ps7, hf7, hp7, hq7⟩ := HQ7.out
      have HP7 := lhi hp7
      have HQM := lhi hq7
      have HST := lhi (makers_state HK.out HB7.out hf7 hp7 hq7)
      clear hf7 hp7 hq7
      have HW7 := lhi (HBR.out.trans (show Below w.heap.size wr w7 from ⟨HK7.out.k.os, HK7.out.k.tape, HK7.out.k.output, HK7.out.k.size, fun b hb => HK7.out.k.block b hb⟩))
      go_upto_region 25 with (go_at_call 19; refine HST.out.mono ?_; rintro e w8 ⟨⟨iv8, ov8, mv8, ev8, rfl, hst⟩, hf8, hk8⟩; have HV8 := lhi hst; have HF8 := lhi hf8; have HK8 := lhi hk8; obtain ⟨A8, cap8, rfl, -⟩ := hst.ino; obtain ⟨O8, ocap8, rfl, -⟩ := hst.opn; obtain ⟨M8, mcap8, rfl, -⟩ := hst.mad; clear hst hf8 hk8 HST)
      have HW8 := lhi (HW7.out.trans (show Below w.heap.size w7 w8 from ⟨HK8.out.k.k.os, HK8.out.k.k.tape, HK8.out.k.k.output, HK8.out.k.k.size, fun b hb => HK8.out.k.k.block b hb⟩))
      obtain ⟨tb, htb⟩ : ∃ x, x = w8.heap.size := ⟨_, rfl⟩
      obtain ⟨w9, hw9⟩ : ∃ x, x = w8.alloc (.cells #[.slice A8 (finS c dirs).inodes.length cap8, .slice O8 (finS c dirs).opens.length ocap8, .slice M8 (finS c dirs).made.length mcap8] 30) := ⟨_, rfl⟩
      have hal : Below w8.heap.size w8 w9 := by rw [hw9]; exact (Below.refl _ _).alloc (Nat.le_refl _) _
      have HT9 := lhi (show Blk w9 tb 30 _ by rw [hw9, htb]; exact Blk.new w8 30 #[.slice A8 (finS c dirs).inodes.length cap8, .slice O8 (finS c dirs).opens.length ocap8, .slice M8 (finS c dirs).made.length mcap8])
      have HV9 := lhi (HV8.out.below hal)
      have HF9 := lhi (HF8.out.below hal)
      have HW9 := lhi (HW8.out.trans (hal.mono HW8.out.size))
      rw [<- hw9, <- htb]
      clear hw9 htb hal HV8 HF8
      have hINV := fin_inv HK.out dirs
      have HINV := lhi hINV
      clear hINV
      go_upto_region 26 with (fail)
      go_loopw [20] (fun i wr => ∃ q : Nat, i = .int .i64 q /\ q <= c /\ FsAt (fun b => b < w.heap.size) wr fb s pb M7 ps7 /\ Blk wr tb 30 #[.slice A8 (finS c dirs).inodes.length cap8, .slice O8 (finS c dirs).opens.length ocap8, .slice M8 (finS c dirs).made.length mcap8] /\ StV wr 0 (.slice A8 (finS c dirs).inodes.length cap8) (.slice O8 (finS c dirs).opens.length ocap8) (.slice M8 (finS c dirs).made.length mcap8) ev8 (finS c dirs) /\ Below w.heap.size w wr) (fun i _ => c - (intOf i).toNat)
      case atStart => exact ⟨0, rfl, by omega, HF9.out, HT9.out, HV9.out, HW9.out⟩
      case round =>
       obtain ⟨q, rfl, hq, hfq, htq, hvq, hbq⟩ := hrel
       have HFQ := lhi hfq
       have HTQ := lhi htq
       have HVQ := lhi hvq
       have HBQ := lhi hbq
       clear hfq htq hvq hbq HF9 HT9 HV9 HW9
       by_cases hqc : q < c
       ·have hq1 : (q : Int) < c := by omega
        have hql : q < ps7.length := by have := HP7.out.1; omega
        obtain ⟨tc, htc⟩ := (HP7.out.2 q hql).2 (HB7.out q (by omega))
        have HRS := lhi (result_ok HFQ.out hql (by rw [htc]) (r := noRes) (by rw [htc]) ⟨rfl, rfl, rfl⟩)
        simp only [ResV.cs, noRes] at HRS
        clear htc
        go_upto_region 29 with (go_at_call 20; refine HRS.out.mono ?_; rintro e w10 ⟨rfl, hb10⟩; have HB10 := lhi hb10; clear hb10 HRS)
        obtain ⟨rb, hrb⟩ : ∃ x, x = w10.heap.size := ⟨_, rfl⟩
        obtain ⟨w11, hw11⟩ : ∃ x, x = w10.alloc (.cells #[.int .i64 0, .int .i64 0, .int .i64 0, .bool false, .string ⟨#[]⟩, .slice none 0 0] 41) := ⟨_, rfl⟩
        have hal : Below w10.heap.size w10 w11 := by rw [hw11]; exact (Below.refl _ _).alloc (Nat.le_refl _) _
        have HR11 := lhi (show Blk w11 rb 41 _ by rw [hw11, hrb]; exact Blk.new w10 41 #[.int .i64 0, .int .i64 0, .int .i64 0, .bool false, .string ⟨#[]⟩, .slice none 0 0])
        have HB11 := lhi (HB10.out.trans (hal.mono HB10.out.size))
        rw [<- hw11, <- hrb]
        clear hw11 hrb hal
        have HT11 := lhi (Blk.of_heap (HB11.out.block _ HTQ.out.lt) HTQ.out)
        have hcat := (path_W (show q < 5 by omega)).2
        have hdz := dec_one (show q < 5 by omega)
        have HDC := lhi (fun W : World => decimal_calls q (by omega) W)
        obtain ⟨fx, hfx⟩ : ∃ x, findS (finS c dirs) (parseF (pathS q)) = (x, 0) := ⟨_, Prod.ext rfl (fin_find HK.out dirs hqc)⟩
        have HFD := lhi (fun x : WIn (Bel w11) => Find_calls (w := x.v) ((HVQ.out.below (HB11.out.trans (x.h.mono HB11.out.size))).stm) HINV.out (path := pathS q) (by have : (pathS q).size = 8 := rfl; omega))
        rw [hfx] at HFD
        obtain ⟨dj, hdj⟩ : ∃ d, strD (dgs q) = d := ⟨_, rfl⟩
        rw [hdj] at hdz hcat HDC
        obtain ⟨pj, hpj⟩ : ∃ p, pathS q = p := ⟨_, rfl⟩
        rw [hpj] at HFD hcat
        have hdc : ¬ (9223372036854775807 < 2 + dj.size) := by omega
        have hdc2 : ¬ (9223372036854775807 < 2 + dj.size + 5) := by omega
        clear hdj hpj hfx
        have x0 : ∀ x : WIn (Bel w11), x.v.cell? ⟨tb, 0, none⟩ = some (.slice A8 (finS c dirs).inodes.length cap8) := fun x => x.cell (HT11.out.cell 0)
        have x1 : ∀ x : WIn (Bel w11), x.v.cell? ⟨tb, 1, none⟩ = some (.slice O8 (finS c dirs).opens.length ocap8) := fun x => x.cell (HT11.out.cell 1)
        have x2 : ∀ x : WIn (Bel w11), x.v.cell? ⟨tb, 2, none⟩ = some (.slice M8 (finS c dirs).made.length mcap8) := fun x => x.cell (HT11.out.cell 2)
        refine wp_region_in (C := Bel w11) (by kernel_rfl) (by kernel_rfl) (Bel.drew w11) ?_
        repeat (go_big_quiet_step (first | (go_at_call 16; exact Calls.bel _ (HDC.out _)) | (go_at_call 21; exact Calls.bel _ (HFD.out _))))
        refine wpQuiet_nil ?_
        rintro w12 ⟨⟨w12', hb12⟩, hw⟩
        obtain rfl : w12 = w12' := hw
        have HB12 := lhi (HB11.out.trans (hb12.mono HB11.out.size))
        have HR12 := lhi (Blk.of_heap (hb12.block _ HR11.out.lt) HR11.out)
        clear x0 x1 x2 HFD HDC hcat hdz hdc hdc2
        have r0 : w12.cell? ⟨rb, 0, none⟩ = some (.int .i64 0) := HR12.out.cell 0
        have HW12 := lhi (HBQ.out.trans (HB12.out.mono HBQ.out.size))
        have HF12 := lhi (HFQ.out.below HB12.out)
        have HT12 := lhi (Blk.of_heap (HB12.out.block _ HTQ.out.lt) HTQ.out)
        have HV12 := lhi (HVQ.out.below HB12.out)
        go_upto_region 33 with (fail)
        go_loopw [25] (fun i wr => ∃ p : Nat, i = .int .i64 p /\ p <= q /\ Below w12.heap.size w12 wr) (fun i _ => q - (intOf i).toNat)
        case atStart => exact ⟨0, rfl, by omega, Below.refl _ _⟩
        case round =>
         obtain ⟨p, rfl, hp, hbp⟩ := hrel
         have HBP := lhi hbp
         clear hbp
         by_cases hpq : p < q
         ·have hp1 : (p : Int) < q := by omega
          have HTA := lhi (ftrace_ok (HF12.out.below HBP.out) HQM.out.ok (by omega) (k := q) hql (t := accM c dirs q) (by rw [HQM.out.tr q hqc, HB7.out q hqc]; rfl))
          have HTB := lhi (fun (W : World) (hb : Below w12.heap.size w12 W) => ftrace_ok (HF12.out.below hb) HQM.out.ok (by omega) (k := p) (by have := HP7.out.1; omega) (t := accM c dirs p) (by rw [HQM.out.tr p (by omega), HB7.out p (by omega)]; rfl))
          have HME := lhi (show meetT (accM c dirs q) (accM c dirs p) = false from accs_B HK.out dirs hqc hpq)
          go_wp2_with (first
           | (go_at_call 11; refine HTA.out.mono ?_; rintro e w13 ⟨⟨va, rfl, ha⟩, hb13⟩; have HA := lhi ha; have HB13 := lhi (HBP.out.trans (hb13.mono HBP.out.size)); clear ha hb13 HTA)
           | (go_at_call 11; refine (HTB.out _ HB13.out).mono ?_; rintro e w14 ⟨⟨vb, rfl, hbb⟩, hb14⟩; have HA14 := lhi (own_below HA.out hb14); have HBB := lhi hbb; have HB14 := lhi (HB13.out.trans (hb14.mono HB13.out.size)); clear hbb hb14)
           | (go_at_call 14; refine (tmeet_calls (Sl.ofOwn HA14.out) (Sl.ofOwn HBB.out) (acc_len c dirs q) (acc_len c dirs p)).mono ?_; rintro e w15 ⟨rfl, hb15⟩; rw [HME.out]; have HB15 := lhi (HB14.out.trans (hb15.mono HB14.out.size)); clear hb15))
          go_roundw
          case rel => exact ⟨p + 1, by go_num, by omega, HB15.out⟩
          case measure =>
           simp only [intOf]
           omega
         ·obtain rfl : p = q := by omega
          go_wp2_with (fail)
          go_roundw
          case rel => exact ⟨p + 1, by go_num, by omega, HF12.out.below HBP.out, Blk.of_heap (HBP.out.block _ HT12.out.lt) HT12.out, HV12.out.below HBP.out, HW12.out.trans (HBP.out.mono HW12.out.size)⟩
          case measure =>
           simp only [intOf]
           omega
       ·obtain rfl : q = c := by omega
        have HMY := lhi (May_yes HVQ.out.stm HINV.out)
        have t0 : wr.cell? ⟨tb, 0, none⟩ = some (.slice A8 (finS q dirs).inodes.length cap8) := HTQ.out.cell 0
        have t1 : wr.cell? ⟨tb, 1, none⟩ = some (.slice O8 (finS q dirs).opens.length ocap8) := HTQ.out.cell 1
        have t2 : wr.cell? ⟨tb, 2, none⟩ = some (.slice M8 (finS q dirs).made.length mcap8) := HTQ.out.cell 2
        go_wp2_with (first
         | (go_at_call 9; refine (num_calls _ _).mono ?_; rintro e w' ⟨rfl, rfl⟩)
         | (go_at_call 22; refine HMY.out.mono ?_; rintro e w10 ⟨rfl, hb10⟩; have HB10 := lhi hb10; clear hb10))
        go_ret
        exact ⟨rfl, HBQ.out.trans (HB10.out.mono HBQ.out.size)⟩
end Go.Proofs.YtkebjgebkneijaaGreat
