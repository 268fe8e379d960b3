
/- law6: the model's flush, the walk. -/
import Derived.Test.YtokldnmhhhaalaaMdlF
import Derived.Deep.DeepCutAuto
import Derived.StillTailTactics
namespace Go.Proofs.Ytokldnmhhhaalaa
open Go.RowKit
set_option maxHeartbeats 2000000

def mUp (M : Md) (n : Nat) : Prop := ∀ r, r < n → M.fl r = true
def mFl (M M' : Md) (c n o : Nat) : Prop := (mUp (mfM M c o) n ∧ M' = mEnd (mfM M c o) n o) ∨ ((∃ r, r < n ∧ (mfM M c o).fl r = false) ∧ M' = mfM M c o)

theorem dies_arms (z a g e : Bool) : (z = false ∧ (z && !a && g && e) = false) ∨ (z = true ∧ a = true ∧ (z && !a && g && e) = false) ∨ (z = true ∧ a = false ∧ g = false ∧ (z && !a && g && e) = false) ∨
    (z = true ∧ a = false ∧ g = true ∧ e = false ∧ (z && !a && g && e) = false) ∨ (z = true ∧ a = false ∧ g = true ∧ e = true ∧ (z && !a && g && e) = true) := by
  cases z <;> cases a <;> cases g <;> cases e <;> simp
set_option maxRecDepth 100000 in
theorem mflush_calls {w w0 : World} {B : Mb} {n o : Nat} {M : Md} (h : MS w0 w B n o M) (hn : n ≤ 8) (ho : o ≤ 60) {c : Nat} (hc : c < n) (hb : ∀ j, j < o → -1000000 ≤ M.glob j + M.parts c j ∧ M.glob j + M.parts c j ≤ 1000000) (he : 0 ≤ M.ep ∧ M.ep ≤ 1000000) :
    Calls Try.prog 21 #[.pointer (some ⟨B.b, 0, none⟩), .int .i64 c] w fun e w' => e = .returned (.tuple #[]) ∧ ∃ M', mFl M M' c n o ∧ MS w0 w' B n o M' := by
  have HH := Lib.hid h
  have HB := Lib.hid hb
  have hcn : 0 ≤ (c : Int) ∧ (c : Int) < (n : Int) := by omega
  have hc0 := hcn.1
  have hc1 := hcn.2
  clear h hb hcn
  go_enter Try.func21, Try.ntmps21
  go_wp2_with (fail)
  go_loopw [4] (fun i wr => ∃ k : Nat, i = .int .i64 k ∧ k ≤ o ∧ MS w0 wr B n o (mf1 M c k)) (fun i _ => o - (intOf i).toNat)
  case atStart => exact ⟨0, rfl, by omega, by rw [mf1_zero]; exact HH.out⟩
  case round =>
    clear HH
    obtain ⟨k, rfl, hk, hS⟩ := hrel
    have HS := Lib.hid hS
    have h1 := hS.h1
    by_cases hlt : k < o
    · have hk0 : (0 : Int) ≤ (k : Int) := by omega
      have hk1 : (k : Int) < (o : Int) := by omega
      have h0 := hS.h0
      have hp := hS.at_.cp hc
      have hr : wr.cell? ⟨B.rb c, k, none⟩ = some (.int .i64 (M.parts c k)) := by
        have := hS.at_.cr hc hlt
        rwa [show (mf1 M c k).parts c k = M.parts c k by simp [mf1]] at this
      have hg : wr.cell? ⟨B.bg, k, none⟩ = some (.int .i64 (M.glob k)) := by
        have := hS.at_.cg hlt
        rwa [show (mf1 M c k).glob k = M.glob k by simp [mf1]] at this
      have hbk := HB.out k hlt
      clear hS
      by_cases hz : M.parts c k = 0
      · have hz1 : (M.parts c k != 0) = false := by rw [hz]; rfl
        have HSM := Lib.hid (mf1_same hz)
        clear hz
        generalize M.parts c k = p at *
        go_wp2_with (fail)
        go_roundw
        case rel => exact ⟨k + 1, by go_num, by omega, HS.out.to HSM.out.symm⟩
        case measure => simp [intOf]; omega
      · have hz1 : (M.parts c k != 0) = true := by simpa using hz
        have HSM := Lib.hid (mf1_next hz)
        clear hz
        have fg := HS.out.at_.fg k
        generalize hpp : M.parts c k = p at *
        generalize hgg : M.glob k = q at *
        have HPP := Lib.hid hpp
        have HGG := Lib.hid hgg
        clear hpp hgg
        have e1 : IntKind.i64.wrap (q + p) = q + p := IntWalk.i64_in _ (by omega)
        clear hbk
        go_upto_region 4 with (fail)
        go_still_tail 24, (by kernel_rfl)
        change wpList _ _ _ _ _ (wr.drewN 1)
        have HS2 := Lib.hid (HS.out.drewN 1)
        generalize wr.drewN 1 = w2 at *
        have fg := HS2.out.at_.fg k
        have hg2 : w2.cell? ⟨B.bg, k, none⟩ = some (.int .i64 q) := by
          have := HS2.out.at_.cg hlt
          rwa [show (mf1 M c k).glob k = M.glob k by simp [mf1], HGG.out] at this
        clear hr hg h0 h1 hp HS e1
        go_upto_region 5 with (fail)
        have HS3 := Lib.hid (HS2.out.setGlob k (q + p))
        generalize w2.setCell ⟨B.bg, k, none⟩ (.int .i64 (q + p)) = w3 at *
        clear hg2 fg HS2
        have h0 := HS3.out.h0
        have hp := HS3.out.at_.cp hc
        have hr := HS3.out.at_.cr hc hlt
        have fr := HS3.out.at_.fr hc k
        go_upto_region 6 with (fail)
        have HS4 := Lib.hid (HS3.out.setPart hc k 0)
        generalize w3.setCell ⟨B.rb c, k, none⟩ (.int .i64 0) = w4 at *
        clear hr fr h0 hp HS3
        have h3 := HS4.out.h3
        have ha := HS4.out.at_.cba hlt
        have fa := HS4.out.at_.fba k
        have HF := Lib.hid (HS4.out.setAdded k true)
        go_wp2_with (fail)
        go_roundw
        case rel => exact ⟨k + 1, by go_num, by omega, HF.out.to HSM.out⟩
        case measure => simp [intOf]; omega
    · obtain rfl : k = o := by omega
      have hk1 : ¬ (k : Int) < (k : Int) := by omega
      have h2 := hS.h2
      have hf := hS.at_.cbf hc
      have ff := hS.at_.fbf c
      have HS1 := Lib.hid (show MS w0 (wr.setCell ⟨B.bf, c, none⟩ (.bool true)) B n k (mfM M c k) from hS.setFl c true)
      clear hS HS
      go_wp2_with (fail)
      clear h2 hf ff hk1
      generalize hMM : mfM M c k = MM at *
      have HMM := Lib.hid hMM
      have hep : MM.ep = M.ep := by rw [← hMM]; rfl
      clear hMM
      go_loopw [5] (fun i wx => ∃ r : Nat, i = .int .i64 r ∧ r ≤ n ∧ (∀ x, x < r → MM.fl x = true) ∧ MS w0 wx B n k MM) (fun i _ => n - (intOf i).toNat)
      case atStart => exact ⟨0, rfl, by omega, fun x hx => absurd hx (by omega), HS1.out⟩
      case round =>
        clear HS1
        obtain ⟨r, rfl, hr, hall, hS⟩ := hrel
        have HS := Lib.hid hS
        have HALL := Lib.hid hall
        have h2 := hS.h2
        clear hall
        by_cases hrn : r < n
        · have hr0 : (0 : Int) ≤ (r : Int) := by omega
          have hr1 : (r : Int) < (n : Int) := by omega
          have hf := hS.at_.cbf hrn
          clear hS
          generalize hb : MM.fl r = b at *
          have HBB := Lib.hid hb
          clear hb
          cases b
          · go_wp2_with (fail)
            refine bodyPost_ret (v := .tuple #[]) (results_none rfl _ _ _) rfl ?_
            exact ⟨rfl, MM, by unfold mFl; rw [HMM.out]; exact .inr ⟨⟨r, hrn, HBB.out⟩, rfl⟩, HS.out⟩
          · go_wp2_with (fail)
            go_roundw
            case rel => exact ⟨r + 1, by go_num, by omega, fun x hx => by
              by_cases e : x = r
              · subst e; exact HBB.out
              · exact HALL.out x (by omega), HS.out⟩
            case measure => simp [intOf]; omega
        · obtain rfl : r = n := by omega
          have hr1 : ¬ (r : Int) < (r : Int) := by omega
          have HUP := Lib.hid (show mUp (mfM M c k) r by rw [HMM.out]; exact HALL.out)
          have h7 := hS.h7
          have f7 := hS.at_.fh 7
          rw [hep] at h7
          have e1 : IntKind.i64.wrap (M.ep + 1) = M.ep + 1 := IntWalk.i64_in _ (by omega)
          have HS1 := Lib.hid (show MS w0 (wr.setCell ⟨B.b, 7, none⟩ (.int .i64 (M.ep + 1))) B r k (mf2 { MM with ep := MM.ep + 1 } 0) by rw [mf2_zero, hep]; exact hS.setEp (M.ep + 1))
          clear hS HS HALL hep
          go_wp2_with (fail)
          clear h2 h7 f7 e1 hr1
          generalize hM2 : ({ MM with ep := MM.ep + 1 } : Md) = M2 at *
          have HM2 := Lib.hid hM2
          clear hM2
          go_loopw [6] (fun i wx => ∃ z : Nat, i = .int .i64 z ∧ z ≤ k ∧ MS w0 wx B r k (mf2 M2 z)) (fun i _ => k - (intOf i).toNat)
          case atStart => exact ⟨0, rfl, by omega, HS1.out⟩
          case round =>
            clear HS1
            obtain ⟨z, rfl, hz, hS⟩ := hrel
            have HS := Lib.hid hS
            have h1 := hS.h1
            by_cases hzk : z < k
            · have hz0 : (0 : Int) ≤ (z : Int) := by omega
              have hz1 : (z : Int) < (k : Int) := by omega
              have h3 := hS.h3
              have h4 := hS.h4
              have h5 := hS.h5
              have h6 := hS.h6
              have cg := hS.at_.cg hzk
              have ca := hS.at_.cba hzk
              have cz := hS.at_.cbz hzk
              have ce := hS.at_.cbe hzk
              have cd := hS.at_.cbd hzk
              have fd := hS.at_.fbd z
              rw [show (mf2 M2 z).glob z = M2.glob z from rfl] at cg
              rw [show (mf2 M2 z).added z = M2.added z by simp [mf2]] at ca
              rw [show (mf2 M2 z).zero z = M2.zero z by simp [mf2]] at cz
              rw [show (mf2 M2 z).ever z = M2.ever z from rfl] at ce
              have HD := Lib.hid (show mDies M2 z = (M2.zero z && !M2.added z && M2.glob z == 0 && M2.ever z) from rfl)
              have HNX := Lib.hid (fun d hd => mf2_next (M := M2) (k := z) (d := d) hd)
              clear hS
              generalize hgl : M2.glob z = g at *
              have HGL := Lib.hid (show (mf2 M2 z).glob z = g from hgl)
              clear hgl
              generalize hgb : (g == 0) = gb at *
              have HGB := Lib.hid hgb
              generalize M2.added z = ba at *
              generalize M2.zero z = bz at *
              generalize M2.ever z = be at *
              rcases dies_arms bz ba gb be with ⟨rfl, hd⟩ | ⟨rfl, rfl, hd⟩ | ⟨rfl, rfl, rfl, hd⟩ | ⟨rfl, rfl, rfl, rfl, hd⟩ | ⟨rfl, rfl, rfl, rfl, hd⟩
              · rw [hd] at HD
                have HD := Lib.hid HD.out
                clear hd
                go_upto_region 18 with (fail)
                have HS5 := HS
                clear h1 h3 h4 h5 h6 cg ca cz ce cd fd HS
                have h1' := HS5.out.h1
                have h4' := HS5.out.h4
                have cg' := HS5.out.at_.cg hzk
                rw [HGL.out] at cg'
                go_still_tail 14, (by kernel_rfl)
                change wpList _ _ _ _ _ (wr.drewN 1)
                have HS6 := Lib.hid (HS5.out.drewN 1)
                generalize wr.drewN 1 = w6 at *
                have cz' := HS6.out.at_.cbz hzk
                have fz' := HS6.out.at_.fbz z
                have HS7 := Lib.hid (HS6.out.setZero z (g == 0))
                rw [HGB.out] at HS7
                clear h1' h4' cg' HS5 HS6 hgb
                go_upto_region 19 with (fail)
                generalize w6.setCell ⟨B.bz, z, none⟩ _ = w7 at *
                clear cz' fz'
                have h3' := HS7.out.h3
                have ca' := HS7.out.at_.cba hzk
                have fa' := HS7.out.at_.fba z
                have HF := Lib.hid (HS7.out.setAdded z false)
                go_wp2_with (fail)
                go_roundw
                case rel => exact ⟨z + 1, by go_num, by omega, HF.out.to (HNX.out _ (by rw [HD.out]; rfl))⟩
                case measure => simp [intOf]; omega
              · rw [hd] at HD
                have HD := Lib.hid HD.out
                clear hd
                go_upto_region 18 with (fail)
                have HS5 := HS
                clear h1 h3 h4 h5 h6 cg ca cz ce cd fd HS
                have h1' := HS5.out.h1
                have h4' := HS5.out.h4
                have cg' := HS5.out.at_.cg hzk
                rw [HGL.out] at cg'
                go_still_tail 14, (by kernel_rfl)
                change wpList _ _ _ _ _ (wr.drewN 1)
                have HS6 := Lib.hid (HS5.out.drewN 1)
                generalize wr.drewN 1 = w6 at *
                have cz' := HS6.out.at_.cbz hzk
                have fz' := HS6.out.at_.fbz z
                have HS7 := Lib.hid (HS6.out.setZero z (g == 0))
                rw [HGB.out] at HS7
                clear h1' h4' cg' HS5 HS6 hgb
                go_upto_region 19 with (fail)
                generalize w6.setCell ⟨B.bz, z, none⟩ _ = w7 at *
                clear cz' fz'
                have h3' := HS7.out.h3
                have ca' := HS7.out.at_.cba hzk
                have fa' := HS7.out.at_.fba z
                have HF := Lib.hid (HS7.out.setAdded z false)
                go_wp2_with (fail)
                go_roundw
                case rel => exact ⟨z + 1, by go_num, by omega, HF.out.to (HNX.out _ (by rw [HD.out]; rfl))⟩
                case measure => simp [intOf]; omega
              · rw [hd] at HD
                have HD := Lib.hid HD.out
                clear hd
                go_upto_region 18 with (fail)
                have HS5 := HS
                clear h1 h3 h4 h5 h6 cg ca cz ce cd fd HS
                have h1' := HS5.out.h1
                have h4' := HS5.out.h4
                have cg' := HS5.out.at_.cg hzk
                rw [HGL.out] at cg'
                go_still_tail 14, (by kernel_rfl)
                change wpList _ _ _ _ _ (wr.drewN 1)
                have HS6 := Lib.hid (HS5.out.drewN 1)
                generalize wr.drewN 1 = w6 at *
                have cz' := HS6.out.at_.cbz hzk
                have fz' := HS6.out.at_.fbz z
                have HS7 := Lib.hid (HS6.out.setZero z (g == 0))
                rw [HGB.out] at HS7
                clear h1' h4' cg' HS5 HS6 hgb
                go_upto_region 19 with (fail)
                generalize w6.setCell ⟨B.bz, z, none⟩ _ = w7 at *
                clear cz' fz'
                have h3' := HS7.out.h3
                have ca' := HS7.out.at_.cba hzk
                have fa' := HS7.out.at_.fba z
                have HF := Lib.hid (HS7.out.setAdded z false)
                go_wp2_with (fail)
                go_roundw
                case rel => exact ⟨z + 1, by go_num, by omega, HF.out.to (HNX.out _ (by rw [HD.out]; rfl))⟩
                case measure => simp [intOf]; omega
              · rw [hd] at HD
                have HD := Lib.hid HD.out
                clear hd
                go_upto_region 18 with (fail)
                have HS5 := HS
                clear h1 h3 h4 h5 h6 cg ca cz ce cd fd HS
                have h1' := HS5.out.h1
                have h4' := HS5.out.h4
                have cg' := HS5.out.at_.cg hzk
                rw [HGL.out] at cg'
                go_still_tail 14, (by kernel_rfl)
                change wpList _ _ _ _ _ (wr.drewN 1)
                have HS6 := Lib.hid (HS5.out.drewN 1)
                generalize wr.drewN 1 = w6 at *
                have cz' := HS6.out.at_.cbz hzk
                have fz' := HS6.out.at_.fbz z
                have HS7 := Lib.hid (HS6.out.setZero z (g == 0))
                rw [HGB.out] at HS7
                clear h1' h4' cg' HS5 HS6 hgb
                go_upto_region 19 with (fail)
                generalize w6.setCell ⟨B.bz, z, none⟩ _ = w7 at *
                clear cz' fz'
                have h3' := HS7.out.h3
                have ca' := HS7.out.at_.cba hzk
                have fa' := HS7.out.at_.fba z
                have HF := Lib.hid (HS7.out.setAdded z false)
                go_wp2_with (fail)
                go_roundw
                case rel => exact ⟨z + 1, by go_num, by omega, HF.out.to (HNX.out _ (by rw [HD.out]; rfl))⟩
                case measure => simp [intOf]; omega
              · rw [hd] at HD
                have HD := Lib.hid HD.out
                clear hd
                go_upto_region 18 with (fail)
                have HS5 := Lib.hid (HS.out.setDead z true)
                generalize wr.setCell ⟨B.bd, z, none⟩ (.bool true) = w5 at *
                clear h1 h3 h4 h5 h6 cg ca cz ce cd fd HS
                have h1' := HS5.out.h1
                have h4' := HS5.out.h4
                have cg' := HS5.out.at_.cg hzk
                rw [HGL.out] at cg'
                go_still_tail 14, (by kernel_rfl)
                change wpList _ _ _ _ _ (w5.drewN 1)
                have HS6 := Lib.hid (HS5.out.drewN 1)
                generalize w5.drewN 1 = w6 at *
                have cz' := HS6.out.at_.cbz hzk
                have fz' := HS6.out.at_.fbz z
                have HS7 := Lib.hid (HS6.out.setZero z (g == 0))
                rw [HGB.out] at HS7
                clear h1' h4' cg' HS5 HS6 hgb
                go_upto_region 19 with (fail)
                generalize w6.setCell ⟨B.bz, z, none⟩ _ = w7 at *
                clear cz' fz'
                have h3' := HS7.out.h3
                have ca' := HS7.out.at_.cba hzk
                have fa' := HS7.out.at_.fba z
                have HF := Lib.hid (HS7.out.setAdded z false)
                go_wp2_with (fail)
                go_roundw
                case rel => exact ⟨z + 1, by go_num, by omega, HF.out.to (HNX.out _ (by rw [HD.out]; rfl))⟩
                case measure => simp [intOf]; omega
            · obtain rfl : z = k := by omega
              have hz1 : ¬ (z : Int) < (z : Int) := by omega
              have HS3 := Lib.hid (show MS w0 wr B r z (mf3 (mf2 M2 z) 0) by rw [mf3_zero]; exact hS)
              have HFIN := Lib.hid (show mFl M (mf3 (mf2 M2 z) r) c r z from .inl ⟨HUP.out, by rw [HMM.out, ← HM2.out]; rfl⟩)
              clear hS HS
              go_wp2_with (fail)
              clear h1 hz1
              go_loopw [7] (fun i wx => ∃ q : Nat, i = .int .i64 q ∧ q ≤ r ∧ MS w0 wx B r z (mf3 (mf2 M2 z) q)) (fun i _ => r - (intOf i).toNat)
              case atStart => exact ⟨0, rfl, by omega, HS3.out⟩
              case round =>
                clear HS3
                obtain ⟨q, rfl, hq, hS⟩ := hrel
                have HS := Lib.hid hS
                have h2 := hS.h2
                by_cases hqr : q < r
                · have hq0 : (0 : Int) ≤ (q : Int) := by omega
                  have hq1 : (q : Int) < (r : Int) := by omega
                  have cf := hS.at_.cbf hqr
                  have ff := hS.at_.fbf q
                  have HF := Lib.hid ((hS.setFl q false).to mf3_next)
                  clear hS HS
                  go_wp2_with (fail)
                  go_roundw
                  case rel => exact ⟨q + 1, by go_num, by omega, HF.out⟩
                  case measure => simp [intOf]; omega
                · obtain rfl : q = r := by omega
                  have hq1 : ¬ (q : Int) < (q : Int) := by omega
                  clear hS
                  go_wp2_with (fail)
                  go_end0
                  exact ⟨rfl, _, HFIN.out, HS.out⟩
end Go.Proofs.Ytokldnmhhhaalaa
