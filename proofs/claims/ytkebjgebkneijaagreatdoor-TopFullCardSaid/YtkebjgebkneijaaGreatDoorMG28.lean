/- Texts of one's own that a claim's last text rests on: Uf6. -/
import Derived.Test.YtkebjgebkneijaaGreatDoorMG27
set_option linter.unusedVariables false
set_option linter.unusedSimpArgs false
namespace Go.Proofs.YtkebjgebkneijaaGreatDoor
open Go.RowKit
set_option maxHeartbeats 8000000
set_option maxRecDepth 1000000 in
theorem full_walk (w : World) (core : Int) (_ : (Lit.int .i64 core).wf = true) (many : Int) (_ : (Lit.int .i64 many).wf = true) :
  Calls Tryz.prog 3 #[.int .i64 core, .int .i64 many] w fun e w' => e = .returned (.bool true) /\ Below w.heap.size w w' := by
 obtain ⟨c, hc⟩ : ∃ c : Nat, core % 2 = c := ⟨(core % 2).toNat, by omega⟩
 obtain ⟨kk, hk⟩ : ∃ k : Nat, 33 + many % 4 = k := ⟨(33 + many % 4).toNat, by omega⟩
 have hc1 : c <= 1 := by omega
 have hkk : 33 <= kk /\ kk <= 36 := by omega
 go_enter Tryz.func3, Tryz.ntmps3
 go_upto_region 3 with (go_at_call 4; refine (awake_calls _).mono ?_; rintro e w1 ⟨rfl, hb1⟩; have HB1 := lhi hb1; have HN := lhi (fsNew_ok (L := fun b => b < w.heap.size) (w := w1) (fun b hb => Nat.lt_of_lt_of_le hb hb1.size) (n := 2) (by omega) (by omega)); clear hb1)
 go_upto_region 8 with (first
  | (go_at_call 5; refine HN.out.mono ?_; rintro e w2 ⟨fb, s, pb, rfl, hf2, hb2⟩; have HF2 := lhi hf2; have HB2 := lhi (HB1.out.trans (hb2.mono HB1.out.size)); clear hf2 hb2 HN)
  | (go_at_call 6; refine (num_calls _ _).mono ?_; rintro e w' ⟨rfl, rfl⟩))
 have HR0 := lhi (show FullR w fb s pb c 0 w2 from ⟨_, _, HF2.out, ⟨List.length_replicate, fun q hq => by rw [List.getElem_replicate]; rfl⟩, (fm_new hc1).mono (by omega), HB2.out⟩)
 go_wp2_with (fail)
 clear hc HF2 HB2 HB1
 go_loopw [9] (fun i wr => ∃ j : Nat, i = .int .i64 j /\ j <= kk /\ FullR w fb s pb c j wr) (fun i _ => kk - (intOf i).toNat)
 case atStart => exact ⟨0, rfl, by omega, HR0.out⟩
 case round =>
  obtain ⟨j, rfl, hj, M, ps, hf, hps, hF, hB⟩ := hrel
  by_cases hjk : j < kk
  ·have hjk1 : (j : Int) < kk := by omega
   have HB := lhi hB
   clear hB
   by_cases h32 : j < 32
   ·have hmin : min j 32 = j := by omega
    rw [hmin] at hF
    have HF := lhi hF
    have HPS := lhi hps
    have HST := lhi (State_ok hf hps.2 hF.ok (by omega) hF.dk.fit (f := 1) hF.gather0 (by decide) hF.deep0 (fun _ => ⟨#[]⟩) (fun a q ha hq => by
     rw [hF.fd a q (by rw [hps.1] at ha; omega) hq]; omega) (fun i hi => by cases hi) (by rw [hps.1]; exact hF.data (by omega) s (fun x hx => by cases hx)))
    clear hf hps hF
    go_upto_region 12 with (go_at_call 7; refine HST.out.mono ?_; rintro e w3 ⟨⟨iv, ov, mv, ev, S, rfl, hst, his⟩, hf3, hk3⟩; obtain ⟨iA, icap, rfl, -⟩ := hst.ino; obtain ⟨oA, ocap, rfl, -⟩ := hst.opn; obtain ⟨mA, mcap, rfl, -⟩ := hst.mad; have HF3 := lhi hf3; have HB3 := lhi (below_kp HB.out (fun b hb => hb) hk3.k); clear hst his hf3 hk3 HST)
    generalize S.inodes.length = ni at *
    generalize S.opens.length = no at *
    generalize S.made.length = nm at *
    have HF4 := lhi (HF3.out.alloc (.cells #[.slice iA ni icap, .slice oA no ocap, .slice mA nm mcap] 32))
    have HB4 := lhi (HB3.out.alloc HB3.out.size (.cells #[.slice iA ni icap, .slice oA no ocap, .slice mA nm mcap] 32))
    generalize w3.alloc (.cells #[.slice iA ni icap, .slice oA no ocap, .slice mA nm mcap] 32) = w4 at *
    have hj8 : j % 8 < 8 := by omega
    have hcat := path_N hj8
    obtain ⟨dj, hdj⟩ : ∃ d, strD (dgs (j % 8)) = d := ⟨_, rfl⟩
    rw [hdj] at hcat
    have HDC := lhi (show ∀ W, Calls Tryz.prog 9 #[.int .i64 ((j : Int) % 8)] W fun e w' => e = .returned (.string dj) /\ Below W.heap.size W w' from fun W => by
     have := decimal_calls (j % 8) (by omega) W
     rw [show ((j % 8 : Nat) : Int) = (j : Int) % 8 by omega, hdj] at this
     exact this)
    have hdc : ¬ (9223372036854775807 < 2 + dj.size) := by
     have h3 : (pathN (j % 8)).size = 3 := rfl
     rw [<- hcat, ByteArray.size_append] at h3
     have h4 : (⟨#[47, 110]⟩ : ByteArray).size = 2 := rfl
     omega
    obtain ⟨M', hst⟩ := HF.out.step_create h32 (by omega) (cv := ⟨0, c, 0, 0, 0, pathN (j % 8), ⟨#[]⟩, ⟨#[]⟩⟩) rfl (by show (pathN (j % 8)).size <= _; have : (pathN (j % 8)).size = 3 := rfl; omega) (parse_N hj8) fb s
    have HF' := lhi hst.2.1
    have HAL := lhi (fun W (hf : FsAt (fun b => b < w.heap.size) W fb s pb M ps) => alone_st hf HPS.out HF.out (by omega) (by omega) hc1 (cv := ⟨0, c, 0, 0, 0, pathN (j % 8), ⟨#[]⟩, ⟨#[]⟩⟩) rfl ⟨(by show (0 : Int) <= 0; omega), (by show (0 : Int) <= 16; omega)⟩ (r := noRes) ⟨rfl, rfl, rfl⟩ hst)
    simp only [CallV.cs, ResV.cs, noRes] at HAL
    obtain ⟨pj, hpj⟩ : ∃ p, pathN (j % 8) = p := ⟨_, rfl⟩
    rw [hpj] at HAL hcat
    clear hst hdj
    go_upto_region 13 with (first
     | (go_at_call 9; refine (HDC.out _).mono ?_; rintro e w5 ⟨rfl, hb5⟩; have HF5 := lhi (HF4.out.below hb5); have HB5 := lhi (HB4.out.trans (hb5.mono HB4.out.size)); clear hb5)
     | (go_at_call 8; refine (HAL.out _ HF5.out).mono ?_; rintro e w6 ⟨rfl, ⟨ps', hf6, hp6⟩, hk6⟩; have HF6 := lhi hf6; have HP6 := lhi hp6; have HB6 := lhi (below_kp HB5.out (fun b hb => hb) hk6); clear hf6 hp6 hk6))
    have hF7 := HF6.out.allocIns (.cells #[.int .i64 0, .int .i64 0, .int .i64 0, .bool false, .string ⟨#[]⟩, .slice none 0 0] 37)
    obtain ⟨w7, hw7⟩ : ∃ x, x = w6.alloc (.cells #[.int .i64 0, .int .i64 0, .int .i64 0, .bool false, .string ⟨#[]⟩, .slice none 0 0] 37) := ⟨_, rfl⟩
    obtain ⟨rb, hrb⟩ : ∃ x, x = w6.heap.size := ⟨_, rfl⟩
    have HR7 := lhi (show Blk w7 rb 37 #[.int .i64 0, .int .i64 0, .int .i64 0, .bool false, .string ⟨#[]⟩, .slice none 0 0] by rw [hw7, hrb]; exact Blk.new _ _ _)
    have HB7 := lhi (show Below w.heap.size w w7 by rw [hw7]; exact HB6.out.alloc HB6.out.size _)
    rw [<- hrb, <- hw7] at hF7
    rw [<- hrb, <- hw7]
    clear hrb hw7
    have HST := lhi (State_ok hF7 HP6.out.2 HF'.out.ok (by omega) HF'.out.dk.fit (f := 1) HF'.out.gatherF (by show (2 : Nat) <= 1000000; omega) HF'.out.deepF (fun _ => ⟨#[]⟩) (fun a q ha hq => by
     rw [HF'.out.fd a q (by rw [HP6.out.1] at ha; omega) hq]; omega) (fun i hi => by rw [List.mem_singleton.1 hi]; omega) (by rw [HP6.out.1]; exact HF'.out.data (by omega) s (fun x hx => by rw [List.mem_singleton.1 hx]; omega)))
    clear hF7
    go_upto_region 14 with (go_at_call 7; refine HST.out.mono ?_; rintro e w8 ⟨⟨iv, ov, mv, ev, S, rfl, hst, his⟩, hf8, hk8⟩; obtain ⟨iA', icap', rfl, -⟩ := hst.ino; obtain ⟨oA', ocap', rfl, -⟩ := hst.opn; obtain ⟨mA', mcap', rfl, -⟩ := hst.mad; have HF8 := lhi hf8; have HK8 := lhi hk8; clear hst his hf8 hk8 HST)
    have HR8 := lhi (Blk.of_heap (HK8.out.k.k.block rb (ins.new _ _)) HR7.out)
    generalize S.inodes.length = ni at *
    generalize S.opens.length = no at *
    generalize S.made.length = nm at *
    have HF9 := lhi ((HF8.out.sub (L' := fun b => b < w.heap.size) (fun b hb => ins.old hb)).alloc (.cells #[.slice iA' ni icap', .slice oA' no ocap', .slice mA' nm mcap'] 32))
    have hb8 := below_kp (K := ins (fun b => b < w.heap.size) rb) HB7.out (fun b hb => ins.old hb) HK8.out.k
    have HB9 := lhi (hb8.alloc hb8.size (.cells #[.slice iA' ni icap', .slice oA' no ocap', .slice mA' nm mcap'] 32))
    have r0 : (w8.alloc (.cells #[.slice iA' ni icap', .slice oA' no ocap', .slice mA' nm mcap'] 32)).cell? ⟨rb, 0, none⟩ = some (.int .i64 0) := (HR8.out.alloc _).cell 0
    clear hb8
    generalize w8.alloc (.cells #[.slice iA' ni icap', .slice oA' no ocap', .slice mA' nm mcap'] 32) = w9 at *
    obtain ⟨M'', hst2⟩ := HF'.out.step_remove (nm := nmN (j % 8)) (x := 2 + (c : Int) + 8 * (j : Int)) ⟨by omega, by omega⟩ (by omega) (d := 1 - c) (by omega) (cv := ⟨9, 1 - (c : Int), 0, 0, 0, pathN (j % 8), ⟨#[]⟩, ⟨#[]⟩⟩) rfl (by show (pathN (j % 8)).size <= _; have : (pathN (j % 8)).size = 3 := rfl; omega) (parse_N hj8) fb s
    have HF'' := lhi hst2.2.1
    have HAL := lhi (fun W (hf : FsAt (fun b => b < w.heap.size) W fb s pb M' ps') => alone_st hf HP6.out HF'.out (by omega) (by omega) (d := 1 - c) (by omega) (cv := ⟨9, 1 - (c : Int), 0, 0, 0, pathN (j % 8), ⟨#[]⟩, ⟨#[]⟩⟩) (by show (1 - (c : Int)) = ((1 - c : Nat) : Int); omega) ⟨(by show (0 : Int) <= 9; omega), (by show (9 : Int) <= 16; omega)⟩ (r := noRes) ⟨rfl, rfl, rfl⟩ hst2)
    simp only [CallV.cs, ResV.cs, noRes] at HAL
    rw [hpj] at HAL
    clear hst2 HK8 HR8 HR7
    go_upto_region 19 with (go_at_call 6; refine (num_calls _ _).mono ?_; rintro e w' ⟨rfl, rfl⟩)
    clear r0
    go_upto_region 20 with (first
     | (go_at_call 9; refine (HDC.out _).mono ?_; rintro e w10 ⟨rfl, hb10⟩; have HF10 := lhi (HF9.out.below hb10); have HB10 := lhi (HB9.out.trans (hb10.mono HB9.out.size)); clear hb10)
     | (go_at_call 8; refine (HAL.out _ HF10.out).mono ?_; rintro e w11 ⟨rfl, ⟨ps'', hf11, hp11⟩, hk11⟩; have HF11 := lhi hf11; have HP11 := lhi hp11; have HB11 := lhi (below_kp HB10.out (fun b hb => hb) hk11); clear hf11 hp11 hk11))
    have HF12 := lhi (HF11.out.alloc (.cells #[.int .i64 0, .int .i64 0, .int .i64 0, .bool false, .string ⟨#[]⟩, .slice none 0 0] 37))
    have HB12 := lhi (HB11.out.alloc HB11.out.size (.cells #[.int .i64 0, .int .i64 0, .int .i64 0, .bool false, .string ⟨#[]⟩, .slice none 0 0] 37))
    go_wp2_with (fail)
    go_roundw
    case rel => exact ⟨j + 1, by go_num, by omega, M'', ps'', HF12.out, HP11.out, by rw [show min (j + 1) 32 = j + 1 by omega]; exact HF''.out.mono (by omega), HB12.out⟩
    case measure => simp only [intOf]; omega
   ·have hmin : min j 32 = 32 := by omega
    rw [hmin] at hF
    have HF := lhi hF
    have HPS := lhi hps
    have HST := lhi (State_ok2 hf hps.2 hF.ok (by omega) hF.dk.fit (f := 1) hF.gather0 (by decide) hF.deep0 (fun _ => ⟨#[]⟩) (fun a q ha hq => by
     rw [hF.fd a q (by rw [hps.1] at ha; omega) hq]; omega) (fun i hi => by cases hi) (by rw [hps.1]; exact hF.data (by omega) s (fun x hx => by cases hx)))
    clear hf hps hF
    go_upto_region 12 with (go_at_call 7; refine HST.out.mono ?_; rintro e w3 ⟨⟨iv, ov, mv, ev, S, rfl, hst, his, K, hKL, hKi, hKm, hfK⟩, hf3, hk3⟩; rw [HPS.out.1] at his; obtain rfl := HF.out.state0 his; have HKL := lhi hKL; have HKI := lhi (fun b => hKi b Nat.one_pos); have HKM := lhi (fun b => hKm b (by rw [made_SF]; omega)); have HS3 := lhi hst; have HF3 := lhi hfK; have HB3 := lhi (below_kp HB.out (fun b hb => hb) hk3.k); obtain ⟨iA, icap, rfl, -⟩ := hst.ino; obtain ⟨oA, ocap, rfl, -⟩ := hst.opn; obtain ⟨mA, mcap, rfl, -⟩ := hst.mad; clear hst his hf3 hk3 HST hKL hKi hKm hfK)
    generalize (SF c 32).inodes.length = ni at *
    generalize (SF c 32).opens.length = no at *
    generalize (SF c 32).made.length = nm at *
    obtain ⟨bb, hbb⟩ : ∃ x, x = w3.heap.size := ⟨_, rfl⟩
    obtain ⟨w4, hw4⟩ : ∃ x, x = w3.alloc (.cells #[.slice iA ni icap, .slice oA no ocap, .slice mA nm mcap] 32) := ⟨_, rfl⟩
    have HF4 := lhi (show FsAt (ins K bb) w4 fb s pb M ps by rw [hw4, hbb]; exact HF3.out.allocIns _)
    have HB4 := lhi (show Below w.heap.size w w4 by rw [hw4]; exact HB3.out.alloc HB3.out.size _)
    have HX4 := lhi (show Blk w4 bb 32 #[.slice iA ni icap, .slice oA no ocap, .slice mA nm mcap] by rw [hw4, hbb]; exact Blk.new _ _ _)
    have HS4 := lhi (show StV w4 0 (.slice iA ni icap) (.slice oA no ocap) (.slice mA nm mcap) ev (SF c 32) by rw [hw4]; exact HS3.out.below ((Below.refl _ _).alloc (Nat.le_refl _) _))
    rw [<- hbb, <- hw4]
    clear hbb hw4 HF3 HS3
    have hj8 : j % 8 < 8 := by omega
    have hcat := path_N hj8
    obtain ⟨dj, hdj⟩ : ∃ d, strD (dgs (j % 8)) = d := ⟨_, rfl⟩
    rw [hdj] at hcat
    have HDC := lhi (show ∀ W, Calls Tryz.prog 9 #[.int .i64 ((j : Int) % 8)] W fun e w' => e = .returned (.string dj) /\ Below W.heap.size W w' from fun W => by
     have := decimal_calls (j % 8) (by omega) W
     rw [show ((j % 8 : Nat) : Int) = (j : Int) % 8 by omega, hdj] at this
     exact this)
    have hdc : ¬ (9223372036854775807 < 2 + dj.size) := by
     have h3 : (pathN (j % 8)).size = 3 := rfl
     rw [<- hcat, ByteArray.size_append] at h3
     have h4 : (⟨#[47, 110]⟩ : ByteArray).size = 2 := rfl
     omega
    obtain ⟨M', hst⟩ := HF.out.step_full (by omega) (cv := ⟨0, c, 0, 0, 0, pathN (j % 8), ⟨#[]⟩, ⟨#[]⟩⟩) rfl (by show (pathN (j % 8)).size <= _; have : (pathN (j % 8)).size = 3 := rfl; omega) (parse_N hj8) fb s
    have HF' := lhi hst.2.1
    have HAL := lhi (fun W (hf : FsAt (ins K bb) W fb s pb M ps) => alone_st hf HPS.out HF.out (by omega) (by omega) hc1 (cv := ⟨0, c, 0, 0, 0, pathN (j % 8), ⟨#[]⟩, ⟨#[]⟩⟩) rfl ⟨(by show (0 : Int) <= 0; omega), (by show (0 : Int) <= 16; omega)⟩ (r := codeR 5) ⟨rfl, rfl, rfl⟩ hst)
    simp only [CallV.cs, ResV.cs, codeR] at HAL
    obtain ⟨pj, hpj⟩ : ∃ p, pathN (j % 8) = p := ⟨_, rfl⟩
    rw [hpj] at HAL hcat
    clear hst hdj
    go_upto_region 13 with (first
     | (go_at_call 9; refine (HDC.out _).mono ?_; rintro e w5 ⟨rfl, hb5⟩; have HF5 := lhi (HF4.out.below hb5); have HB5 := lhi (HB4.out.trans (hb5.mono HB4.out.size)); have HS5 := lhi (HS4.out.below hb5); have HX5 := lhi (Blk.of_heap (hb5.block _ HX4.out.lt) HX4.out); clear hb5)
     | (go_at_call 8; refine (HAL.out _ HF5.out).mono ?_; rintro e w6 ⟨rfl, ⟨ps', hf6, hp6⟩, hk6⟩; have HF6 := lhi hf6; have HP6 := lhi hp6; have HB6 := lhi (below_kp (K := ins K bb) HB5.out (fun b hb => ins.old (HKL.out b hb)) hk6); have HS6 := lhi (stv_root HS5.out (fun b hb => hk6.k.block b (ins.old (HKI.out b hb))) (fun b hb => hk6.k.block b (ins.old (HKM.out b hb)))); have HX6 := lhi (hk6.blk HX5.out (ins.new _ _)); clear hf6 hp6 hk6))
    obtain ⟨w7, hw7⟩ : ∃ x, x = w6.alloc (.cells #[.int .i64 5, .int .i64 0, .int .i64 0, .bool false, .string ⟨#[]⟩, .slice none 0 0] 37) := ⟨_, rfl⟩
    obtain ⟨rb, hrb⟩ : ∃ x, x = w6.heap.size := ⟨_, rfl⟩
    have hF7 : FsAt (ins (ins K bb) rb) w7 fb s pb M' ps' := by rw [hw7, hrb]; exact HF6.out.allocIns _
    have HR7 := lhi (show Blk w7 rb 37 #[.int .i64 5, .int .i64 0, .int .i64 0, .bool false, .string ⟨#[]⟩, .slice none 0 0] by rw [hw7, hrb]; exact Blk.new _ _ _)
    have HB7 := lhi (show Below w.heap.size w w7 by rw [hw7]; exact HB6.out.alloc HB6.out.size _)
    have HS7 := lhi (show StV w7 0 (.slice iA ni icap) (.slice oA no ocap) (.slice mA nm mcap) ev (SF c 32) by rw [hw7]; exact HS6.out.below ((Below.refl _ _).alloc (Nat.le_refl _) _))
    have HX7 := lhi (show Blk w7 bb 32 #[.slice iA ni icap, .slice oA no ocap, .slice mA nm mcap] by rw [hw7]; exact HX6.out.alloc _)
    rw [<- hrb, <- hw7]
    clear hrb hw7 HF5 HF4 HB5 HS5 HX5 HS4 HX4 HS6 HX6
    have HST := lhi (State_ok hF7 HP6.out.2 HF'.out.ok (by omega) HF'.out.dk.fit (f := 1) HF'.out.gather0 (by decide) HF'.out.deep0 (fun _ => ⟨#[]⟩) (fun a q ha hq => by
     rw [HF'.out.fd a q (by rw [HP6.out.1] at ha; omega) hq]; omega) (fun i hi => by cases hi) (by rw [HP6.out.1]; exact HF'.out.data (by omega) s (fun x hx => by cases hx)))
    clear hF7
    go_upto_region 14 with (go_at_call 7; refine HST.out.mono ?_; rintro e w8 ⟨⟨iv, ov, mv, ev', S, rfl, hst, his⟩, hf8, hk8⟩; rw [HP6.out.1] at his; obtain rfl := HF'.out.state0 his; have HT8 := lhi hst; obtain ⟨iA', icap', rfl, -⟩ := hst.ino; obtain ⟨oA', ocap', rfl, -⟩ := hst.opn; obtain ⟨mA', mcap', rfl, -⟩ := hst.mad; have HF8 := lhi hf8; have HK8 := lhi hk8; clear hst his hf8 hk8 HST)
    have HR8 := lhi (Blk.of_heap (HK8.out.k.k.block rb (ins.new _ _)) HR7.out)
    have HX8 := lhi (Blk.of_heap (HK8.out.k.k.block bb (ins.old (ins.new _ _))) HX7.out)
    have HS8 := lhi (stv_root HS7.out (fun b hb => HK8.out.k.k.block b (ins.old (ins.old (HKI.out b hb)))) (fun b hb => HK8.out.k.k.block b (ins.old (ins.old (HKM.out b hb)))))
    generalize (SF c 32).inodes.length = ni' at *
    generalize (SF c 32).opens.length = no' at *
    generalize (SF c 32).made.length = nm' at *
    obtain ⟨ab, hab⟩ : ∃ x, x = w8.heap.size := ⟨_, rfl⟩
    obtain ⟨w9, hw9⟩ : ∃ x, x = w8.alloc (.cells #[.slice iA' ni' icap', .slice oA' no' ocap', .slice mA' nm' mcap'] 32) := ⟨_, rfl⟩
    have hb89 : Below w8.heap.size w8 w9 := by rw [hw9]; exact (Below.refl _ _).alloc (Nat.le_refl _) _
    have HF9 := lhi ((HF8.out.sub (L' := fun b => b < w.heap.size) (fun b hb => ins.old (ins.old (HKL.out b hb)))).below hb89)
    have hb8 := below_kp (K := ins (ins K bb) rb) HB7.out (fun b hb => ins.old (ins.old (HKL.out b hb))) HK8.out.k
    have HB9 := lhi (hb8.trans (hb89.mono hb8.size))
    have HY9 := lhi (show Blk w9 ab 32 #[.slice iA' ni' icap', .slice oA' no' ocap', .slice mA' nm' mcap'] by rw [hw9, hab]; exact Blk.new _ _ _)
    have HR9 := lhi (Blk.of_heap (hb89.block _ HR8.out.lt) HR8.out)
    have HX9 := lhi (Blk.of_heap (hb89.block _ HX8.out.lt) HX8.out)
    have HSM := lhi (same_calls (HS8.out.below hb89).stm (HT8.out.below hb89).stm (inv_SF (by omega)) rfl rfl)
    rw [<- hab, <- hw9]
    clear hb8 hb89 hab hw9 HR8 HX8 HS8 HT8 HF8 HK8 HR7 HX7 HS7 HB7 HKL HKI HKM
    have r0 : w9.cell? ⟨rb, 0, none⟩ = some (.int .i64 5) := HR9.out.cell 0
    have x0 : w9.cell? ⟨bb, 0, none⟩ = some (.slice iA ni icap) := HX9.out.cell 0
    have x1 : w9.cell? ⟨bb, 1, none⟩ = some (.slice oA no ocap) := HX9.out.cell 1
    have x2 : w9.cell? ⟨bb, 2, none⟩ = some (.slice mA nm mcap) := HX9.out.cell 2
    have y0 : w9.cell? ⟨ab, 0, none⟩ = some (.slice iA' ni' icap') := HY9.out.cell 0
    have y1 : w9.cell? ⟨ab, 1, none⟩ = some (.slice oA' no' ocap') := HY9.out.cell 1
    have y2 : w9.cell? ⟨ab, 2, none⟩ = some (.slice mA' nm' mcap') := HY9.out.cell 2
    obtain ⟨M'', hst2⟩ := HF'.out.step_none (nm := nmN (j % 8)) (by omega) (d := 1 - c) (by omega) (cv := ⟨9, 1 - (c : Int), 0, 0, 0, pathN (j % 8), ⟨#[]⟩, ⟨#[]⟩⟩) rfl (by show (pathN (j % 8)).size <= _; have : (pathN (j % 8)).size = 3 := rfl; omega) (parse_N hj8) fb s
    have HF'' := lhi hst2.2.1
    have HAL := lhi (fun W (hf : FsAt (fun b => b < w.heap.size) W fb s pb M' ps') => alone_st hf HP6.out HF'.out (by omega) (by omega) (d := 1 - c) (by omega) (cv := ⟨9, 1 - (c : Int), 0, 0, 0, pathN (j % 8), ⟨#[]⟩, ⟨#[]⟩⟩) (by show (1 - (c : Int)) = ((1 - c : Nat) : Int); omega) ⟨(by show (0 : Int) <= 9; omega), (by show (9 : Int) <= 16; omega)⟩ (r := codeR 1) ⟨rfl, rfl, rfl⟩ hst2)
    simp only [CallV.cs, ResV.cs, codeR] at HAL
    rw [hpj] at HAL
    clear hst2
    go_upto_region 19 with (first
     | (go_at_call 6; refine (num_calls _ _).mono ?_; rintro e w' ⟨rfl, rfl⟩)
     | (go_at_call 10; refine HSM.out.mono ?_; rintro e w10 ⟨rfl, hb10⟩; have HF10 := lhi (HF9.out.below hb10); have HB10 := lhi (HB9.out.trans (hb10.mono HB9.out.size)); clear hb10))
    clear r0 x0 x1 x2 y0 y1 y2
    go_upto_region 20 with (first
     | (go_at_call 9; refine (HDC.out _).mono ?_; rintro e w11 ⟨rfl, hb11⟩; have HF11 := lhi (HF10.out.below hb11); have HB11 := lhi (HB10.out.trans (hb11.mono HB10.out.size)); clear hb11)
     | (go_at_call 8; refine (HAL.out _ HF11.out).mono ?_; rintro e w12 ⟨rfl, ⟨ps'', hf12, hp12⟩, hk12⟩; have HF12 := lhi hf12; have HP12 := lhi hp12; have HB12 := lhi (below_kp HB11.out (fun b hb => hb) hk12); clear hf12 hp12 hk12))
    have HF13 := lhi (HF12.out.alloc (.cells #[.int .i64 1, .int .i64 0, .int .i64 0, .bool false, .string ⟨#[]⟩, .slice none 0 0] 37))
    have HB13 := lhi (HB12.out.alloc HB12.out.size (.cells #[.int .i64 1, .int .i64 0, .int .i64 0, .bool false, .string ⟨#[]⟩, .slice none 0 0] 37))
    go_wp2_with (fail)
    go_roundw
    case rel => exact ⟨j + 1, by go_num, by omega, M'', ps'', HF13.out, HP12.out, by rw [show min (j + 1) 32 = 32 by omega]; exact HF''.out.mono (by omega), HB13.out⟩
    case measure => simp only [intOf]; omega
  ·have hjk1 : ¬ ((j : Int) < kk) := by omega
   have hmin : min j 32 = 32 := by omega
   rw [hmin] at hF
   obtain ⟨d, hd⟩ : ∃ d, d = 1 - c := ⟨_, rfl⟩
   obtain ⟨M', h1, h2, h3, h4, h5⟩ := hF.step_other (by omega) (cv := ⟨0, 1 - (c : Int), 0, 0, 0, pathO, ⟨#[]⟩, ⟨#[]⟩⟩) rfl (by show pathO.size <= _; decide) parse_O fb s hd
   have HAL := lhi (alone_ok hf (m := 9000 + 40 * j + 7) ((hF.clear d).ok.mono (by omega)) h2 (by omega) (k := d) (by rw [hps.1]; omega) (cv := ⟨0, 1 - (c : Int), 0, 0, 0, pathO, ⟨#[]⟩, ⟨#[]⟩⟩) (by show (1 - (c : Int)) = ((d : Nat) : Int); omega) ⟨(by show (0 : Int) <= 0; omega), (by show (0 : Int) <= 16; omega)⟩ (hps.2 d (by rw [hps.1]; omega)) (r := noRes) ⟨rfl, rfl, rfl⟩ h3 h4 h5 h1)
   simp only [CallV.cs, ResV.cs, noRes, pathO] at HAL
   have HB := lhi hB
   clear hB hF hf hps h1 h2 h3 h4 h5 hd
   go_upto_region 23 with (go_at_call 8; refine HAL.out.mono ?_; rintro e w3 ⟨rfl, -, hk3⟩; have HB3 := lhi (below_kp HB.out (fun b hb => hb) hk3); clear hk3)
   have HB4 := lhi (HB3.out.alloc HB3.out.size (.cells #[.int .i64 0, .int .i64 0, .int .i64 0, .bool false, .string ⟨#[]⟩, .slice none 0 0] 37))
   go_wp2_with (fail)
   go_ret
   exact ⟨rfl, HB4.out⟩
end Go.Proofs.YtkebjgebkneijaaGreatDoor
