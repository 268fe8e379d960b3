
/- refs: Flush, the walk. -/
import Derived.Test.YtokldnmhhhaalaaRefs6
namespace Go.Proofs.Ytokldnmhhhaalaa
open Go.RowKit
set_option maxHeartbeats 1000000

section
variable {L : Nat → Prop} {w : World} {a x : Nat} {n m : Nat} {f o : Int} {T : Int → Int → Int}

/-- Behind a flush of core c. -/
def FlushR (T T' : Int → Int → Int) (n : Nat) (o c : Int) : Prop :=
  ((∀ r : Nat, r < n → upd2 (flushK T n c o.toNat) c o 1 r o ≠ 0) ∧ T' = endT (upd2 (flushK T n c o.toNat) c o 1) n o) ∨
  ((∃ r : Nat, r < n ∧ upd2 (flushK T n c o.toNat) c o 1 r o = 0) ∧ T' = upd2 (flushK T n c o.toNat) c o 1)

theorem rFlush_err (h : RS L w x a f o n m T) (c : Int) (hc : c < 0 ∨ (n : Int) ≤ c) :
    Calls Try.prog 16 #[.pointer (some ⟨x, 0, none⟩), .int .i64 c] w fun e w' => e = .returned (.int .i64 600) ∧ w = w' := by
  obtain ⟨ws, hM, hA⟩ := h.ar
  have hco := Lib.hid (rcore_no h.rc hA c hc)
  clear h hM hA
  go_enter Try.func16, Try.ntmps16
  go_wp2_with (go_at_call 43; refine hco.out.mono ?_; rintro e w' ⟨rfl, rfl⟩)
  go_ret
  exact ⟨rfl, rfl⟩

set_option maxRecDepth 100000 in
theorem rFlush_ok (h : RS L w x a f o n m T) (hm : m ≤ 1099511500000) (c : Int) (hc : 0 ≤ c ∧ c < n) (hW : ∀ r : Nat, r < n → W62 (T r (o + 1))) (hE : -1000000 ≤ T n o ∧ T n o ≤ 1000000)
    (hKn : ∀ j, 0 ≤ j → j < o → 0 ≤ T ((n : Int) + 1) j ∧ T ((n : Int) + 1) j ≤ 7) (hG : ∀ j, 0 ≤ j → j < o → -1000000 ≤ T n j + T c j ∧ T n j + T c j ≤ 1000000) :
    Calls Try.prog 16 #[.pointer (some ⟨x, 0, none⟩), .int .i64 c] w fun e w' => e = .returned (.int .i64 0) ∧ ∃ T', RS L w' x a f o n (m + 1000) T' ∧ FlushR T T' n o c ∧ Keeps L w w' := by
  have hn := h.n_
  have ho := h.o_
  have hlx := h.lx
  have HW := Lib.hid hW
  have HH := Lib.hid h
  have HKN7 := Lib.hid hKn
  have HGB := Lib.hid hG
  have q2 := h.q2
  have hco : Calls Try.prog 43 #[.pointer (some ⟨x, 0, none⟩), .int .i64 c] w fun e w' => e = .returned (.bool true) ∧ w = w' := by
    obtain ⟨ws, hM, hA⟩ := h.ar
    exact rcore_yes h.rc hA c hc
  have hco := Lib.hid hco
  clear h hW hKn hG
  go_enter Try.func16, Try.ntmps16
  go_wp2_with (go_at_call 43; refine hco.out.mono ?_; rintro e w' ⟨rfl, rfl⟩)
  clear q2 hco
  go_loopw [25] (fun i wr => ∃ z : Nat, i = .int .i64 z ∧ (z : Int) ≤ o ∧ RS L wr x a f o n (m + 5 * z) (flushK T n c z) ∧ Keeps L w wr) (fun i _ => (o - intOf i).toNat)
  case atStart => exact ⟨0, rfl, by omega, HH.out.congr fun r i _ _ i0 _ => flushK_zero T n c r i i0, Keeps.refl _ _⟩
  case round =>
    clear HH
    obtain ⟨z, rfl, hz, hS, hK⟩ := hrel
    have HS := Lib.hid hS
    have HK := Lib.hid hK
    by_cases hlt : (z : Int) < o
    · have hB := hS.base (r := c) (by omega) (by omega)
      have HR := Lib.hid (fun W (m2 : Nat) (T2 : Int → Int → Int) (d : Nat) (h : RS L W x a f o n m2 T2) => rsRow (h.drewN d) (c := c) ⟨by omega, by omega⟩ rfl)
      have HG := Lib.hid (fun W (m2 : Nat) (T2 : Int → Int → Int) (d : Nat) (h : RS L W x a f o n m2 T2) => rsGlobal (h.drewN d) (j := (z : Int)) ⟨by omega, hlt⟩ rfl)
      have HKN := Lib.hid (fun W (m2 : Nat) (T2 : Int → Int → Int) (d : Nat) (h : RS L W x a f o n m2 T2) => rsKnown (h.drewN d) (j := (z : Int)) ⟨by omega, hlt⟩ rfl)
      have hPC := Lib.hid (⟨by omega, by omega, by omega, by omega, rfl⟩ : Pl f o n c z (f + c * (o + 2) + z))
      have hPG := Lib.hid (⟨by omega, by omega, by omega, by omega, rfl⟩ : Pl f o n (n : Int) z (f + (n : Int) * (o + 2) + z))
      have hPK := Lib.hid (⟨by omega, by omega, by omega, by omega, rfl⟩ : Pl f o n ((n : Int) + 1) z (f + ((n : Int) + 1) * (o + 2) + z))
      generalize f + c * (o + 2) = BC at *
      generalize f + (n : Int) * (o + 2) = BG at *
      generalize f + ((n : Int) + 1) * (o + 2) = BK at *
      have e1 : IntKind.i64.wrap (BC + z) = BC + z := IntWalk.i64_in _ (by omega)
      have q0 := hS.q0
      have HVC := Lib.hid (show flushK T n c z c z = T c z by unfold flushK; rw [if_neg (by omega)])
      clear hS hK
      go_upto_region 8 with (fail)
      go_region_held3 (fun w' => w'.cell? ⟨x, 0, none⟩ = some (.pointer (some ⟨a, 0, none⟩))) (first | exact q0 | exact hS4.q0)
        ((first
          | (go_at_call 45; refine (HR.out _ _ _ _ HS.out).mono ?_; rintro e w' ⟨rfl, d, rfl⟩)
          | (go_at_call 44; refine (rsLoad (HS.out.drewN _) (by omega) hc hPC.out HVC.out).mono ?_; rintro e w4 ⟨rfl, hS4, hK4⟩)))
      have HS4 := Lib.hid hS4
      have HK4 := Lib.hid hK4.undrewN
      have q4 := hS4.q0
      clear hS4 hK4 q0 HS
      by_cases hz0 : T c z = 0
      · have hz1 : (T c z == 0) = true := by simpa using hz0
        have HNX := Lib.hid (fun r i => flushK_same (T := T) hc hz0 r i)
        go_wp2
        go_roundw
        case rel => exact ⟨z + 1, by go_num, by omega, (HS4.out.congr fun r i _ _ _ _ => HNX.out r i).mono (by omega), HK.out.trans HK4.out⟩
        case measure => simp [intOf]; omega
      · have hz1 : (T c z == 0) = false := by simpa using hz0
        have HNX := Lib.hid (fun r i => flushK_next (T := T) hc hz0 r i)
        have HVG := Lib.hid (show wrap64 (upd2 (flushK T n c z) c z 0 n z + T c z) = T n z + T c z by
          have hb := HGB.out z (by omega) hlt
          simp only [upd2, flushK]
          rw [if_neg (by omega), if_neg (by omega)]
          unfold wrap64; omega)
        have HVK := Lib.hid (show upd2 (upd2 (flushK T n c z) c z 0) n z (T n z + T c z) ((n : Int) + 1) z = T ((n : Int) + 1) z by
          simp only [upd2, flushK]
          rw [if_neg (by omega), if_neg (by omega), if_neg (by omega)])
        have HO2 := Lib.hid (or_2 (HKN7.out z (by omega) hlt))
        clear hz0
        generalize T c (z : Int) = tc at *
        generalize T (n : Int) (z : Int) = tg at *
        generalize T ((n : Int) + 1) (z : Int) = tk at *
        go_upto_region 10 with (fail)
        go_region_held3 (fun w' => w'.cell? ⟨x, 0, none⟩ = some (.pointer (some ⟨a, 0, none⟩))) (first | exact q4 | exact hS5.q0)
          ((first
            | (go_at_call 45; refine (HR.out _ _ _ _ HS4.out).mono ?_; rintro e w' ⟨rfl, d, rfl⟩)
            | (go_at_call 46; refine (rsStore (HS4.out.drewN _) (by omega) _ hc hPC.out).mono ?_; rintro e w5 ⟨rfl, hS5, hK5⟩)))
        have HS5 := Lib.hid hS5
        have HK5 := Lib.hid hK5.undrewN
        have q5 := hS5.q0
        clear hS5 hK5 q4 HS4
        go_upto_region 11 with (fail)
        go_region_held3 (fun w' => w'.cell? ⟨x, 0, none⟩ = some (.pointer (some ⟨a, 0, none⟩))) (first | exact q5 | exact hS6.q0)
          ((first
            | (go_at_call 48; refine (HG.out _ _ _ _ HS5.out).mono ?_; rintro e w' ⟨rfl, d, rfl⟩)
            | (go_at_call 47; refine (rsAdd (HS5.out.drewN _) (by omega) hc hPG.out HVG.out).mono ?_; rintro e w6 ⟨rfl, hS6, hK6⟩)))
        have HS6 := Lib.hid hS6
        have HK6 := Lib.hid hK6.undrewN
        have q6 := hS6.q0
        clear hS6 hK6 q5 HS5
        go_upto_region 12 with (fail)
        go_region_held3 (fun w' => w'.cell? ⟨x, 0, none⟩ = some (.pointer (some ⟨a, 0, none⟩))) (first | exact q6 | exact hS7.q0)
          ((first
            | (go_at_call 49; refine (HKN.out _ _ _ _ HS6.out).mono ?_; rintro e w' ⟨rfl, d, rfl⟩)
            | (go_at_call 44; refine (rsLoad (HS6.out.drewN _) (by omega) hc hPK.out HVK.out).mono ?_; rintro e w7 ⟨rfl, hS7, hK7⟩)))
        have HS7 := Lib.hid hS7
        have HK7 := Lib.hid hK7.undrewN
        have q7 := hS7.q0
        clear hS7 hK7 q6 HS6
        go_upto_region 13 with (fail)
        go_region_held3 (fun w' => w'.cell? ⟨x, 0, none⟩ = some (.pointer (some ⟨a, 0, none⟩))) (first | exact q7 | exact hS8.q0)
          ((first
            | (go_at_call 49; refine (HKN.out _ _ _ _ HS7.out).mono ?_; rintro e w' ⟨rfl, d, rfl⟩)
            | (go_at_call 46; rw [HO2.out]; refine (rsStore (HS7.out.drewN _) (by omega) _ hc hPK.out).mono ?_; rintro e w8 ⟨rfl, hS8, hK8⟩)))
        go_wp2
        go_roundw
        case rel => exact ⟨z + 1, by go_num, by omega, (hS8.congr fun r i _ _ _ _ => HNX.out r i).mono (by omega), (((HK.out.trans HK4.out).trans HK5.out).trans (HK6.out.trans HK7.out)).trans hK8.undrewN⟩
        case measure => simp [intOf]; omega
    · have HZ := Lib.hid (show z = o.toNat by omega)
      have HR := Lib.hid (fun W (m2 : Nat) (T2 : Int → Int → Int) (d : Nat) (h : RS L W x a f o n m2 T2) => rsRow (h.drewN d) (c := c) ⟨by omega, by omega⟩ rfl)
      have hPC := Lib.hid (⟨by omega, by omega, by omega, by omega, rfl⟩ : Pl f o n c o (f + c * (o + 2) + o))
      have hB := hS.base (r := c) (by omega) (by omega)
      generalize f + c * (o + 2) = BC at *
      have q0 := hS.q0
      have q2 := hS.q2
      have HS := Lib.hid (hS.mono (show m + 5 * z ≤ m + 300 by omega))
      have e1 : IntKind.i64.wrap (BC + o) = BC + o := IntWalk.i64_in _ (by omega)
      have hmm : m + 300 ≤ 1099511627770 := by omega
      have HST := Lib.hid (fun (W : World) (d : Nat) (h : RS L W x a f o n (m + 300) (flushK T n c z)) => rsStore (h.drewN d) hmm 1 hc hPC.out)
      clear hS hK
      go_upto_region 15 with (fail)
      go_region_held3 (fun w' => w'.cell? ⟨x, 0, none⟩ = some (.pointer (some ⟨a, 0, none⟩)) ∧ w'.cell? ⟨x, 2, none⟩ = some (.int .i64 o)) (first | exact ⟨q0, q2⟩ | exact ⟨hS4.q0, hS4.q2⟩)
        ((first
          | (go_at_call 45; refine (HR.out _ _ _ _ HS.out).mono ?_; rintro e w' ⟨rfl, d, rfl⟩)
          | (go_at_call 46; refine (HST.out _ _ HS.out).mono ?_; rintro e w4 ⟨rfl, hS4, hK4⟩)))
      have hW1 : ∀ r : Nat, r < n → W62 (upd2 (flushK T n c z) c o 1 r (o + 1)) := fun r hr => by
        simp only [upd2, flushK]
        rw [if_neg (by omega), if_neg (by omega)]
        exact HW.out r hr
      have hE1 : -1000000 ≤ upd2 (flushK T n c z) c o 1 n o ∧ upd2 (flushK T n c z) c o 1 n o ≤ 1000000 := by
        simp only [upd2, flushK]
        rw [if_neg (by omega), if_neg (by omega)]
        exact hE
      have hfin : ∀ T', (((∀ r : Nat, r < n → upd2 (flushK T n c z) c o 1 r o ≠ 0) ∧ T' = endT (upd2 (flushK T n c z) c o 1) n o) ∨ ((∃ r : Nat, r < n ∧ upd2 (flushK T n c z) c o 1 r o = 0) ∧ T' = upd2 (flushK T n c z) c o 1)) → FlushR T T' n o c := fun T' h => by
        rw [HZ.out] at h
        exact h
      have HFIN := Lib.hid hfin
      have HW1 := Lib.hid hW1
      have HE1 := Lib.hid hE1
      have HS4 := Lib.hid hS4
      have HK4 := Lib.hid (HK.out.trans hK4.undrewN)
      have q4 := hS4.q0
      have HCO := Lib.hid (rsCores hS4)
      clear hS4 hK4 hfin hW1 hE1 q0 q2 HS HST HR hPC e1 hB hmm HK HKN7 HGB HW
      generalize upd2 (flushK T n c z) c o 1 = T1 at *
      clear hlt hz
      go_wp2_with (go_at_call 40; refine HCO.out.mono ?_; rintro e w' ⟨rfl, rfl⟩)
      clear q4 HCO
      go_loopw [108] (fun i wr => ∃ k : Nat, i = .int .i64 k ∧ k ≤ n ∧ (∀ r : Nat, r < k → T1 r o ≠ 0) ∧ RS L wr x a f o n (m + 301 + k) T1 ∧ Keeps L w wr) (fun i _ => n - (intOf i).toNat)
      case atStart => exact ⟨0, rfl, by omega, fun r hr => absurd hr (by omega), HS4.out.mono (by omega), HK4.out⟩
      case round =>
        clear HS4 HK4
        obtain ⟨k, rfl, hk, hall, hS, hK⟩ := hrel
        have HALL := Lib.hid hall
        have HS := Lib.hid hS
        have HK := Lib.hid hK
        clear hall
        by_cases hlt : k < n
        · have hlt' : (k : Int) < (n : Int) := by omega
          have hB := hS.base (r := (k : Int)) (by omega) (by omega)
          have HR := Lib.hid (fun W (m2 : Nat) (T2 : Int → Int → Int) (d : Nat) (h : RS L W x a f o n m2 T2) => rsRow (h.drewN d) (c := (k : Int)) ⟨by omega, by omega⟩ rfl)
          have hPF := Lib.hid (⟨by omega, by omega, by omega, by omega, rfl⟩ : Pl f o n (k : Int) o (f + (k : Int) * (o + 2) + o))
          generalize f + (k : Int) * (o + 2) = B at *
          have e1 : IntKind.i64.wrap (B + o) = B + o := IntWalk.i64_in _ (by omega)
          have q0 := hS.q0
          have q2 := hS.q2
          have hmm : m + 301 + k ≤ 1099511627770 := by omega
          generalize hv : T1 (k : Int) o = v at *
          have HV := Lib.hid hv
          have HLD := Lib.hid (fun (W : World) (d : Nat) (h : RS L W x a f o n (m + 301 + k) T1) => rsLoad (h.drewN d) hmm hc hPF.out HV.out)
          clear hS hK hv
          go_upto_region 19 with (fail)
          go_region_held3 (fun w' => w'.cell? ⟨x, 0, none⟩ = some (.pointer (some ⟨a, 0, none⟩)) ∧ w'.cell? ⟨x, 2, none⟩ = some (.int .i64 o)) (first | exact ⟨q0, q2⟩ | exact ⟨hS5.q0, hS5.q2⟩)
            ((first
              | (go_at_call 45; refine (HR.out _ _ _ _ HS.out).mono ?_; rintro e w' ⟨rfl, d, rfl⟩)
              | (go_at_call 44; refine (HLD.out _ _ HS.out).mono ?_; rintro e w5 ⟨rfl, hS5, hK5⟩)))
          have HS5 := Lib.hid hS5
          have HK5 := Lib.hid (HK.out.trans hK5.undrewN)
          clear hS5 hK5 q0 q2 HS HK e1 hB
          by_cases hv0 : v = 0
          · have hv1 : (v == 0) = true := by simpa using hv0
            go_wp2
            go_ret
            exact ⟨rfl, T1, HS5.out.mono (by omega), HFIN.out _ (.inr ⟨⟨k, hlt, HV.out.trans hv0⟩, rfl⟩), HK5.out⟩
          · have hv1 : (v == 0) = false := by simpa using hv0
            go_wp2
            go_roundw
            case rel =>
              refine ⟨k + 1, by go_num, by omega, fun r hr => ?_, HS5.out.mono (by omega), HK5.out⟩
              by_cases e : r = k
              · subst e; rw [HV.out]; exact hv0
              · exact HALL.out r (by omega)
            case measure => simp [intOf]; omega
        · have hlt' : ¬ (k : Int) < (n : Int) := by omega
          have HALL := Lib.hid (show ∀ r : Nat, r < n → T1 r o ≠ 0 from fun r hr => HALL.out r (by omega))
          have HEND := Lib.hid (rend_ok hS (by omega) c hc HW1.out HE1.out)
          clear hS hK HS
          go_wp2_with (fail)
          refine HEND.out.mono ?_
          rintro e w5 ⟨rfl, hS5, hK5⟩
          have HS5 := Lib.hid hS5
          have HK5 := Lib.hid (HK.out.trans hK5)
          clear hS5 hK5
          go_wp2_with (fail)
          go_ret
          exact ⟨rfl, _, HS5.out.mono (by omega), HFIN.out _ (.inl ⟨HALL.out, rfl⟩), HK5.out⟩
end
end Go.Proofs.Ytokldnmhhhaalaa
