
/- refs: end. -/
import Derived.Test.YtokldnmhhhaalaaRefs4
import Derived.Deep.DeepCutAuto
namespace Go.Proofs.Ytokldnmhhhaalaa
open Go.RowKit
set_option maxHeartbeats 1000000

theorem and2 (x : Int) : bits .and .i64 x 2 = x / 2 % 2 * 2 := and_bit x 1 (by omega)
theorem or_1 {d : Int} (h : d = 0 ∨ d = 4) : bits .or .i64 d 1 = d + 1 := by rcases h with rfl | rfl <;> decide
theorem or_4 {d : Int} (h : d = 0 ∨ d = 4) : bits .or .i64 (d + 1) 4 = 5 := by rcases h with rfl | rfl <;> decide

theorem end_arms (g kn q : Int) (b : Bool) (hb : (q == 1) = b) :
    ((g == 0) = false ∧ nextK g kn b = kn / 4 % 2 * 4) ∨ ((g == 0) = true ∧ (kn % 2 != 0) = false ∧ nextK g kn b = kn / 4 % 2 * 4 + 1) ∨
    ((g == 0) = true ∧ (kn % 2 != 0) = true ∧ (kn / 2 % 2 * 2 == 0) = false ∧ nextK g kn b = kn / 4 % 2 * 4 + 1) ∨
    ((g == 0) = true ∧ (kn % 2 != 0) = true ∧ (kn / 2 % 2 * 2 == 0) = true ∧ (q == 1) = false ∧ nextK g kn b = kn / 4 % 2 * 4 + 1) ∨
    ((g == 0) = true ∧ (kn % 2 != 0) = true ∧ (kn / 2 % 2 * 2 == 0) = true ∧ (q == 1) = true ∧ nextK g kn b = 5) := by
  unfold nextK
  by_cases h0 : g = 0
  · by_cases h1 : kn % 2 = 1
    · by_cases h2 : kn / 2 % 2 = 0
      · rcases Bool.eq_false_or_eq_true b with rfl | rfl
        · right; right; right; right; simp [h0, h1, h2, hb]
        · right; right; right; left; simp [h0, h1, h2, hb]
      · right; right; left; simp [h0, h1, h2]
    · right; left; simp [h0, h1]; omega
  · left; simp [h0]

section
variable {L : Nat → Prop} {w : World} {a x : Nat} {n m : Nat} {f o : Int} {T : Int → Int → Int}

set_option maxRecDepth 100000 in
theorem rend_ok (h : RS L w x a f o n m T) (hm : m ≤ 1099511600000) (c : Int) (hc : 0 ≤ c ∧ c < n) (hW : ∀ r : Nat, r < n → W62 (T r (o + 1))) (hE : -1000000 ≤ T n o ∧ T n o ≤ 1000000) :
    Calls Try.prog 50 #[.pointer (some ⟨x, 0, none⟩), .int .i64 c] w fun e w' => e = .returned (.tuple #[]) ∧ RS L w' x a f o n (m + 300) (endT T n o) ∧ Keeps L w w' := by
  have hn := h.n_
  have ho := h.o_
  have hlx := h.lx
  have HW := Lib.hid hW
  have HH := Lib.hid h
  have q0 := h.q0
  have hco := Lib.hid (rsCores h)
  clear h hW
  go_enter Try.func50, Try.ntmps50
  go_wp2_with (go_at_call 40; refine hco.out.mono ?_; rintro e w' ⟨rfl, rfl⟩)
  clear q0 hco
  go_loopw [4, 19] (fun ct i wr => ∃ k : Nat, i = .int .i64 k ∧ k ≤ n ∧ ct = .int .i64 (cntO T o k) ∧ RS L wr x a f o n (m + 2 * k) (endK T n o k 0) ∧ Keeps L w wr) (fun _ i _ => n - (intOf i).toNat)
  case atStart => exact ⟨0, rfl, by omega, rfl, HH.out.congr fun r i r0 _ i0 _ => endK_zero T n o r i r0 i0, Keeps.refl _ _⟩
  case round =>
    clear HH
    obtain ⟨k, rfl, hk, rfl, hS, hK⟩ := hrel
    have HS := Lib.hid hS
    have HK := Lib.hid hK
    by_cases hlt : k < n
    · have hlt' : (k : Int) < (n : Int) := by omega
      have hB := hS.base (r := (k : Int)) (by omega) (by omega)
      have HR := Lib.hid (fun W (m2 : Nat) (T2 : Int → Int → Int) (d : Nat) (h : RS L W x a f o n m2 T2) => rsRow (h.drewN d) (c := (k : Int)) ⟨by omega, by omega⟩ rfl)
      have hPF := Lib.hid (⟨by omega, by omega, by omega, by omega, rfl⟩ : Pl f o n (k : Int) o (f + (k : Int) * (o + 2) + o))
      have hPM := Lib.hid (⟨by omega, by omega, by omega, by omega, by omega⟩ : Pl f o n (k : Int) (o + 1) (f + (k : Int) * (o + 2) + o + 1))
      generalize hb : f + (k : Int) * (o + 2) = B at *
      have e1 : IntKind.i64.wrap (B + o) = B + o := IntWalk.i64_in _ (by omega)
      have e2 : IntKind.i64.wrap (B + o + 1) = B + o + 1 := IntWalk.i64_in _ (by omega)
      have q0 := hS.q0
      have q2 := hS.q2
      have HMK := Lib.hid (show upd2 (endK T n o k 0) k o 0 k (o + 1) = T k (o + 1) by simp only [upd2, endK]; rw [if_neg (by omega), if_neg (by omega), if_neg (by omega)])
      have HOR := Lib.hid (bits_or (cntO_W62 (T := T) (o := o) (k := k) fun r hr => HW.out r (by omega)) (HW.out k hlt))
      have HCO := Lib.hid (show orI (cntO T o k) (T k (o + 1)) = cntO T o (k + 1) from rfl)
      clear hS hK hb
      generalize cntO T o k = ck at *
      go_upto_region 4 with (fail)
      go_region_held3 (fun w' => w'.cell? ⟨x, 0, none⟩ = some (.pointer (some ⟨a, 0, none⟩)) ∧ w'.cell? ⟨x, 2, none⟩ = some (.int .i64 o)) (first | exact ⟨q0, q2⟩ | exact ⟨hS4.q0, hS4.q2⟩)
        ((first
          | (go_at_call 45; refine (HR.out _ _ _ _ HS.out).mono ?_; rintro e w' ⟨rfl, d, rfl⟩)
          | (go_at_call 46; refine (rsStore (HS.out.drewN _) (by omega) _ hc hPF.out).mono ?_; rintro e w4 ⟨rfl, hS4, hK4⟩)))
      have HS4 := Lib.hid hS4
      have HK4 := Lib.hid hK4.undrewN
      have q4 := hS4.q0
      have q5 := hS4.q2
      clear hS4 hK4 q0 q2 HS
      go_upto_region 5 with (fail)
      go_region_held3 (fun w' => w'.cell? ⟨x, 0, none⟩ = some (.pointer (some ⟨a, 0, none⟩)) ∧ w'.cell? ⟨x, 2, none⟩ = some (.int .i64 o)) (first | exact ⟨q4, q5⟩ | exact ⟨hS5.q0, hS5.q2⟩)
        ((first
          | (go_at_call 45; refine (HR.out _ _ _ _ HS4.out).mono ?_; rintro e w' ⟨rfl, d, rfl⟩)
          | (go_at_call 44; refine (rsLoad (HS4.out.drewN _) (by omega) hc hPM.out HMK.out).mono ?_; rintro e w5 ⟨rfl, hS5, hK5⟩)))
      clear e1 e2
      have HK5 := Lib.hid hK5.undrewN
      have HS5 := Lib.hid hS5
      clear hS5 hK5 q4 q5
      go_wp2
      rw [HOR.out, HCO.out]
      go_roundw
      case rel => exact ⟨k + 1, by go_num, by omega, rfl, (HS5.out.congr fun r i _ _ i0 _ => endK_flag r i i0).mono (by omega), (HK.out.trans HK4.out).trans HK5.out⟩
      case measure => simp [intOf]; omega
    · obtain rfl : k = n := by omega
      have hlt' : ¬ (k : Int) < (k : Int) := by omega
      have q2 := hS.q2
      have HCW := Lib.hid (cntO_W62 (T := T) (o := o) (k := k) HW.out)
      obtain ⟨z0, hz0⟩ : ∃ z0 : Nat, o = z0 := ⟨o.toNat, by omega⟩
      clear hS hK HW
      generalize hcn : cntO T o k = cn at *
      have HCN := Lib.hid hcn
      clear hcn
      go_wp2_with (fail)
      clear q2 hlt'
      go_loopw [62] (fun i wr => ∃ z : Nat, i = .int .i64 z ∧ (z : Int) ≤ o ∧ RS L wr x a f o k (m + 16 + 3 * z) (endK T k o k z) ∧ Keeps L w wr) (fun i _ => z0 - (intOf i).toNat)
      case atStart => exact ⟨0, rfl, by omega, HS.out.mono (by omega), HK.out⟩
      case round =>
        clear HS HK
        obtain ⟨z, rfl, hz, hS, hK⟩ := hrel
        have HS := Lib.hid hS
        have HK := Lib.hid hK
        by_cases hlt : (z : Int) < o
        · have HG := Lib.hid (fun W (m2 : Nat) (T2 : Int → Int → Int) (d : Nat) (h : RS L W x a f o k m2 T2) => rsGlobal (h.drewN d) (j := (z : Int)) ⟨by omega, hlt⟩ rfl)
          have HKN := Lib.hid (fun W (m2 : Nat) (T2 : Int → Int → Int) (d : Nat) (h : RS L W x a f o k m2 T2) => rsKnown (h.drewN d) (j := (z : Int)) ⟨by omega, hlt⟩ rfl)
          have hPG := Lib.hid (⟨by omega, by omega, by omega, by omega, rfl⟩ : Pl f o k (k : Int) z (f + (k : Int) * (o + 2) + z))
          have hPK := Lib.hid (⟨by omega, by omega, by omega, by omega, rfl⟩ : Pl f o k ((k : Int) + 1) z (f + ((k : Int) + 1) * (o + 2) + z))
          generalize f + (k : Int) * (o + 2) = BG at *
          generalize f + ((k : Int) + 1) * (o + 2) = BK at *
          have q0 := hS.q0
          have hvg : endK T k o k z k z = T k z := by simp only [endK]; rw [if_neg (by omega), if_neg (by omega)]
          have hvk : endK T k o k z ((k : Int) + 1) z = T ((k : Int) + 1) z := by simp only [endK]; rw [if_neg (by omega), if_neg (by omega)]
          have HKW := Lib.hid (fun r i => endK_known (T := T) (n := k) (o := o) (z := z) hlt r i)
          rw [HCN.out] at HKW
          clear hS hK
          generalize hg : T (k : Int) (z : Int) = g at *
          generalize hkn : T ((k : Int) + 1) (z : Int) = kn at *
          have HVG := Lib.hid hvg
          have HVK := Lib.hid hvk
          clear hvg hvk hg hkn
          have hbt := bit_told (i := z) HCW.out
          generalize bitOf cn z = bb at *
          have HBT := Lib.hid hbt
          clear hbt
          go_upto_region 11 with (fail)
          go_region_held3 (fun w' => w'.cell? ⟨x, 0, none⟩ = some (.pointer (some ⟨a, 0, none⟩))) (first | exact q0 | exact hS4.q0)
            ((first
              | (go_at_call 48; refine (HG.out _ _ _ _ HS.out).mono ?_; rintro e w' ⟨rfl, d, rfl⟩)
              | (go_at_call 44; refine (rsLoad (HS.out.drewN _) (by omega) hc hPG.out HVG.out).mono ?_; rintro e w4 ⟨rfl, hS4, hK4⟩)))
          have HS4 := Lib.hid hS4
          have HK4 := Lib.hid hK4.undrewN
          have q4 := hS4.q0
          clear hS4 hK4 q0 HS
          go_upto_region 12 with (fail)
          go_region_held3 (fun w' => w'.cell? ⟨x, 0, none⟩ = some (.pointer (some ⟨a, 0, none⟩))) (first | exact q4 | exact hS5.q0)
            ((first
              | (go_at_call 49; refine (HKN.out _ _ _ _ HS4.out).mono ?_; rintro e w' ⟨rfl, d, rfl⟩)
              | (go_at_call 44; refine (rsLoad (HS4.out.drewN _) (by omega) hc hPK.out HVK.out).mono ?_; rintro e w5 ⟨rfl, hS5, hK5⟩)))
          have HS5 := Lib.hid hS5
          have HK5 := Lib.hid hK5.undrewN
          have q5 := hS5.q0
          clear hS5 hK5 q4 HS4
          have hd : kn / 4 % 2 * 4 = 0 ∨ kn / 4 % 2 * 4 = 4 := by omega
          have HO1 := Lib.hid (or_1 hd)
          have HO4 := Lib.hid (or_4 hd)
          have e2 := and2 kn
          have hzz : (0 : Int) ≤ (z : Int) := by omega
          have harm := end_arms g kn (cn / 2 ^ z % 2) bb HBT.out
          clear hd
          rcases harm with ⟨g1, hnk⟩ | ⟨g1, g2, hnk⟩ | ⟨g1, g2, g3, hnk⟩ | ⟨g1, g2, g3, g4, hnk⟩ | ⟨g1, g2, g3, g4, hnk⟩
          all_goals (
            have HNK := Lib.hid hnk
            clear hnk
            go_upto_region 18 with (fail)
            go_region_held3 (fun w' => w'.cell? ⟨x, 0, none⟩ = some (.pointer (some ⟨a, 0, none⟩))) (first | exact q5 | exact hS6.q0)
              ((first
                | (go_at_call 49; refine (HKN.out _ _ _ _ HS5.out).mono ?_; rintro e w' ⟨rfl, d, rfl⟩)
                | (go_at_call 46; (first | rw [HO1.out, HO4.out] | rw [HO1.out] | skip); refine (rsStore (HS5.out.drewN _) (by omega) _ hc hPK.out).mono ?_; rintro e w6 ⟨rfl, hS6, hK6⟩)))
            rw [← HNK.out] at hS6
            have HS6 := Lib.hid (hS6.congr fun r i _ _ _ _ => HKW.out r i)
            have HK6 := Lib.hid hK6.undrewN
            clear hS6 hK6 q5 HS5
            go_wp2
            go_roundw
            case rel => exact ⟨z + 1, by go_num, by omega, HS6.out.mono (by omega), ((HK.out.trans HK4.out).trans HK5.out).trans HK6.out⟩
            case measure => simp [intOf]; omega)
        · have HZ := Lib.hid (show z = o.toNat by omega)
          have HEP := Lib.hid (fun W (m2 : Nat) (T2 : Int → Int → Int) (d : Nat) (h : RS L W x a f o k m2 T2) => rsEpoch (h.drewN d) rfl)
          have hPG := Lib.hid (⟨by omega, by omega, by omega, by omega, rfl⟩ : Pl f o k (k : Int) o (f + (k : Int) * (o + 2) + o))
          generalize f + (k : Int) * (o + 2) = BG at *
          have q0 := hS.q0
          have hvg : endK T k o k z k o = T k o := by simp only [endK]; rw [if_neg (by omega), if_neg (by omega)]
          have HVE := Lib.hid (show wrap64 (endK T k o k z k o + 1) = T k o + 1 by rw [hvg]; unfold wrap64; omega)
          have hmm : m + 16 + 3 * z ≤ 1099511627770 := by omega
          have HAD := Lib.hid (fun (W : World) (d : Nat) (h : RS L W x a f o k (m + 16 + 3 * z) (endK T k o k z)) => rsAdd (b := 1) (v := T k o + 1) (h.drewN d) hmm hc hPG.out HVE.out)
          have hlt0 : ¬ (z : Int) < (z0 : Int) := by omega
          clear hS hK hvg hmm hz0
          go_upto_region 20 with (fail)
          go_region_held3 (fun w' => w'.cell? ⟨x, 0, none⟩ = some (.pointer (some ⟨a, 0, none⟩))) (first | exact q0 | exact hS6.q0)
            ((first
              | (go_at_call 52; refine (HEP.out _ _ _ _ HS.out).mono ?_; rintro e w' ⟨rfl, d, rfl⟩)
              | (go_at_call 47; refine (HAD.out _ _ HS.out).mono ?_; rintro e w6 ⟨rfl, hS6, hK6⟩)))
          go_wp2
          go_end0
          rw [HZ.out] at hS6
          exact ⟨rfl, hS6.mono (by omega), HK.out.trans hK6.undrewN⟩
end
end Go.Proofs.Ytokldnmhhhaalaa
