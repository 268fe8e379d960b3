
/- dir: Move. -/
import Derived.Test.YtkbajjpdngfhbaaDirOps
namespace Go.Proofs.Ytkbajjpdngfhbaa
open Go.RowKit
set_option maxHeartbeats 2000000
section
variable {L : Nat → Prop} {w : World} {a d : Nat} {ws : List Int} {n m : Nat} {P : List (List Acc) → Prop} {f : Int} {T : Nat → Nat → Option Ent}
/-- What Move tells and does. -/
def MovR (T : Nat → Nat → Option Ent) (s t : ByteArray) (e : Int) (T' : Nat → Nat → Option Ent) : Prop :=
  ((∀ k u, k < 4 → T (nbucket s) k ≠ some (s, u)) ∧ e = 903 ∧ T' = T) ∨
  (∃ k u, k < 4 ∧ T (nbucket s) k = some (s, u) ∧
    (((∃ j v, j < 4 ∧ T (nbucket t) j = some (t, v)) ∧ e = 901 ∧ T' = T) ∨
    ((∀ j v, j < 4 → T (nbucket t) j ≠ some (t, v)) ∧
      ((nbucket t ≠ nbucket s ∧ (∀ j, j < 4 → T (nbucket t) j ≠ none) ∧ e = 902 ∧ T' = T) ∨
      (nbucket t = nbucket s ∧ e = 0 ∧ T' = updS T (nbucket s) k (some (t, u))) ∨
      (nbucket t ≠ nbucket s ∧ ∃ j, j < 4 ∧ T (nbucket t) j = none ∧ e = 0 ∧ T' = updS (updS T (nbucket t) j (some (t, u))) (nbucket s) k none)))))
set_option maxRecDepth 1000000 in
theorem Move_err (h : DAt L w d a f) (hA : ArP L w a ws n m P) {c : Int} {s t : ByteArray} (hc : mayE n c [s, t] = 900) :
    Calls Try.prog 13 #[.pointer (some ⟨d, 0, none⟩), .int .i64 c, .string s, .string t] w fun e w' => e = .returned (.int .i64 900) ∧ DAt L w' d a f ∧ ArP L w' a ws n m P ∧ Keeps L w w' := by
  have H := Lib.hid (may2 h hA c s t hc)
  clear h hA
  go_enter Try.func13, Try.ntmps13
  go_wp2_with (fail)
  refine H.out.mono ?_
  rintro e w1 ⟨rfl, hD, hA, hK⟩
  go_wp2_with (fail)
  go_ret
  exact ⟨rfl, hD, hA, hK⟩
theorem bucket_b (h : DAt L w d a f) (hA : ArP L w a ws n m P) (s : ByteArray) :
    Calls Try.prog 32 #[.string s] w fun e w' => e = .returned (.int .i64 (nbucket s : Nat)) ∧ DAt L w' d a f ∧ ArP L w' a ws n m P ∧ Keeps L w w' := by
  have hbd := hA.bd
  refine (bucket_calls s w).mono ?_
  rintro e w' ⟨rfl, hB⟩
  have hk := (Keeps.ofBelow hB).sub fun j hj => hbd j hj
  exact ⟨rfl, h.keep hk, hA.below hB, hk⟩
theorem pack_b (h : DAt L w d a f) (hA : ArP L w a ws n m P) (s : ByteArray) (hs : s.size ≤ 12) (v : Nat) (hv : v < 2147483648) {z : Int} (hz : (v : Int) = z) :
    Calls Try.prog 33 #[.string s, .int .i64 z] w fun e w' => e = .returned (.agg #[.int .i64 (headW s v), .int .i64 (firstW s), .int .i64 (secondW s)]) ∧ DAt L w' d a f ∧ ArP L w' a ws n m P ∧ Keeps L w w' := by
  subst hz
  have hbd := hA.bd
  refine (pack_calls s hs v hv w).mono ?_
  rintro e w' ⟨rfl, hB⟩
  have hk := (Keeps.ofBelow hB).sub fun j hj => hbd j hj
  exact ⟨rfl, h.keep hk, hA.below hB, hk⟩
theorem get_num (h : DAt L w d a f) (hA : ArP L w a ws n m P) (x y z : Int) {r : Int} (hr : x % 2147483648 = r) :
    Calls Try.prog 35 #[.agg #[.int .i64 x, .int .i64 y, .int .i64 z]] w fun e w' => e = .returned (.int .i64 r) ∧ DAt L w' d a f ∧ ArP L w' a ws n m P ∧ Keeps L w w' := by
  subst hr
  have hbd := hA.bd
  refine (snum_calls x y z w).mono ?_
  rintro e w' ⟨rfl, hB⟩
  have hk := (Keeps.ofBelow hB).sub fun j hj => hbd j hj
  exact ⟨rfl, h.keep hk, hA.below hB, hk⟩
theorem get_b (h : DAt L w d a f) (hA : ArP L w a ws n m P) (hT : Tab ws f T) (hm : m ≤ 1099511627770) {c : Int} {b k : Nat} (hc : 0 ≤ c ∧ c < n) (hb : b < 8) (hk : k < 4) {S : Acc → Prop} (hcl : Cl n P c S) (hS : ∀ i, f + (b : Int) * 13 ≤ i → i < f + (b : Int) * 13 + 13 → S (i, false)) :
    Calls Try.prog 34 #[.pointer (some ⟨d, 0, none⟩), .int .i64 c, .int .i64 b, .int .i64 k] w fun e w' => e = .returned (.agg #[.int .i64 (sW0 (T b k)), .int .i64 (sW1 (T b k)), .int .i64 (sW2 (T b k))]) ∧ DAt L w' d a f ∧ ArP L w' a ws n (m + 3) P ∧ Keeps L w w' := by
  refine (get_slot h hA hT hm hc hb hk hcl hS).mono ?_
  rintro e w' ⟨h1, h2, h3⟩
  exact ⟨h1, h.keep h3, h2, h3⟩

set_option maxRecDepth 1000000 in
theorem Move_ok (h : DAt L w d a f) (hA : ArP L w a ws n m P) (hT : Tab ws f T) (hm : m ≤ 1099511620000) {c : Int} {s t : ByteArray} (hc : mayE n c [s, t] = 0) {S : Acc → Prop} (hcl : Cl n P c S) (hS : ∀ i bb, (f + (nbucket s : Int) * 13 ≤ i ∧ i < f + (nbucket s : Int) * 13 + 13) ∨ (f + (nbucket t : Int) * 13 ≤ i ∧ i < f + (nbucket t : Int) * 13 + 13) → S (i, bb)) :
    Calls Try.prog 13 #[.pointer (some ⟨d, 0, none⟩), .int .i64 c, .string s, .string t] w fun e w' => ∃ r ws' T', e = .returned (.int .i64 r) ∧ MovR T s t r T' ∧ Tab ws' f T' ∧ DAt L w' d a f ∧ ArP L w' a ws' n (m + 37) P ∧ Keeps L w w' := by
  obtain ⟨hc1, hok⟩ := mayE_core hc
  obtain ⟨hn1, hn2⟩ := allOk2 hok
  have hs := ncheck_size hn1
  have ht := ncheck_size hn2
  have hbl := nbucket_lt s
  have hbl2 := nbucket_lt t
  have HT := Lib.hid hT
  have H := Lib.hid (may2 h hA c s t hc)
  clear h hA hT hok hc
  go_enter Try.func13, Try.ntmps13
  go_wp2_with (fail)
  refine H.out.mono ?_
  rintro e w1 ⟨rfl, hD1, hA1, hK1⟩
  go_wp2_with (fail)
  refine (find_b hD1 hA1 HT.out (by omega) hc1 hs hcl (fun i h1 h2 => hS i false (.inl ⟨h1, h2⟩))).mono ?_
  rintro e w2 ⟨⟨x, y, rfl, hat, _⟩, hD2, hA2, hK2⟩
  have HK2 := Lib.hid (hK1.trans hK2)
  clear hD1 hA1 hK1 hK2
  rcases hat with ⟨k, u, hk, rfl, hu⟩ | ⟨rfl, hu⟩
  · have hk0 : ¬ (k : Int) < 0 := by omega
    have HU := Lib.hid hu
    clear hu
    go_wp2_with (fail)
    refine (find_b hD2 hA2 HT.out (by omega) hc1 ht hcl (fun i h1 h2 => hS i false (.inr ⟨h1, h2⟩))).mono ?_
    rintro e w3 ⟨⟨x, y2, rfl, hat, hfr⟩, hD3, hA3, hK3⟩
    have HK3 := Lib.hid (HK2.out.trans hK3)
    clear hD2 hA2 hK3
    go_wp2_with (fail)
    refine (bucket_b hD3 hA3 s).mono ?_
    rintro e w4 ⟨rfl, hD4, hA4, hK4⟩
    have HK4 := Lib.hid (HK3.out.trans hK4)
    clear hD3 hA3 hK4
    rcases hat with ⟨j, v, hj, rfl, hv⟩ | ⟨rfl, hv⟩
    · have hj0 : (0 : Int) ≤ (j : Int) := by omega
      have HF := Lib.hid (show MovR T s t 901 T from .inr ⟨k, u, hk, HU.out, .inl ⟨⟨j, v, hj, hv⟩, rfl, rfl⟩⟩)
      clear hv hfr
      go_wp2_with (fail)
      go_ret
      exact ⟨901, ws, T, rfl, HF.out, HT.out, hD4, hA4.mono (by omega), HK4.out⟩
    · have HV := Lib.hid hv
      have hE := (HT.out.ok _ k _ hbl hk HU.out).1
      have hvn : sW0 (T (nbucket s) k) % 2147483648 = (u : Int) := by rw [HU.out]; exact num_sW (x := some (s, u)) (fun e he => by cases he; exact hE)
      have HE := Lib.hid hE
      have HVN := Lib.hid hvn
      clear hv hE hvn
      by_cases hbb : nbucket t = nbucket s
      · have hbi : ((nbucket t : Int) == (nbucket s : Int)) = true := by rw [hbb]; simp
        have HF := Lib.hid (show MovR T s t 0 (updS T (nbucket s) k (some (t, u))) from .inr ⟨k, u, hk, HU.out, .inr ⟨fun j v hj => HV.out j v hj, .inr (.inl ⟨hbb, rfl, rfl⟩)⟩⟩)
        obtain ⟨w5, hw5, hD5, hA5, hK5⟩ : ∃ w5, w5 = w4 ∧ DAt L w5 d a f ∧ ArP L w5 a ws n (m + 12 + 12) P ∧ Keeps L w4 w5 := ⟨w4, rfl, hD4, hA4, Keeps.refl _ _⟩
        clear hfr
        have HX := Lib.hid (show ∀ e, some (t, u) = some e → EntOk e ∧ nbucket e.1 = nbucket s from fun e he => by cases he; exact ⟨⟨hn2, HE.out.2⟩, hbb⟩)
        have HN := Lib.hid (show ∀ e, some (t, u) = some e → ∀ k' e', k' < 4 → k' ≠ k → T (nbucket s) k' = some e' → e.1 ≠ e'.1 from fun e he k' e' hk' _ hT' hne => by cases he; obtain ⟨e1, e2⟩ := e'; simp only at hne; subst hne; rw [← hbb] at hT'; exact HV.out k' e2 hk' hT')
        have hu2 := HE.out.2.2
        have HU2 := Lib.hid hu2
        clear hu2
        by_cases hy : y2 < 0
        case' pos =>
          clear hw5 hD5 hA5 hK5
          go_wp2_with (go_at_call 32; refine (bucket_b hD4 hA4 t).mono ?_; rintro e w5 ⟨rfl, hD5, hA5, hK5⟩)
        case' neg =>
          go_wp2_with (fail)
          rw [← hw5]
          clear hw5
        all_goals (
          have HK5 := Lib.hid (HK4.out.trans hK5)
          clear hD4 hA4 hK5
          refine (get_b hD5 hA5 HT.out (by omega) hc1 hbl hk hcl (fun i h1 h2 => hS i false (.inl ⟨h1, h2⟩))).mono ?_
          rintro e w6 ⟨rfl, hD6, hA6, hK6⟩
          have HK6 := Lib.hid (HK5.out.trans hK6)
          clear hD5 hA5 hK6
          have HNU := Lib.hid (get_num hD6 hA6 (sW0 (T (nbucket s) k)) (sW1 (T (nbucket s) k)) (sW2 (T (nbucket s) k)) HVN.out)
          obtain ⟨z, hz⟩ : ∃ z : Int, (u : Int) = z := ⟨_, rfl⟩
          rw [hz] at HNU
          have HZ := Lib.hid hz
          clear hz hD6 hA6
          go_wp2_with (go_at_call 35; refine HNU.out.mono ?_; rintro e w7 ⟨rfl, hD7, hA7, hK7⟩)
          have HK7 := Lib.hid (HK6.out.trans hK7)
          clear hK7
          refine (bucket_b hD7 hA7 t).mono ?_
          rintro e w8 ⟨rfl, hD8, hA8, hK8⟩
          have HK8 := Lib.hid (HK7.out.trans hK8)
          clear hD7 hA7 hK8
          go_wp2_with (fail)
          refine (bucket_b hD8 hA8 t).mono ?_
          rintro e w9 ⟨rfl, hD9, hA9, hK9⟩
          have HK9 := Lib.hid (HK8.out.trans hK9)
          clear hD8 hA8 hK9
          go_wp2_with (fail)
          refine (pack_b hD9 hA9 t ht u HU2.out HZ.out).mono ?_
          rintro e w10 ⟨rfl, hD10, hA10, hK10⟩
          have HK10 := Lib.hid (HK9.out.trans hK10)
          clear hD9 hA9 hK10
          go_wp2_with (fail)
          have HPT := Lib.hid (put_b hD10 hA10 HT.out (by omega) hc1 hbl hk hcl (fun i h1 h2 => hS i true (.inl ⟨h1, h2⟩)) (some (t, u)) (v0 := headW t u) (v1 := firstW t) (v2 := secondW t) rfl rfl rfl HX.out HN.out)
          clear hD10 hA10
          refine HPT.out.mono ?_
          rintro e w11 ⟨rfl, ws', hT11, hD11, hA11, hK11⟩
          have HK11 := Lib.hid (HK10.out.trans hK11)
          clear hK11 HPT
          go_wp2_with (fail)
          refine (bucket_b hD11 hA11 t).mono ?_
          rintro e w12 ⟨rfl, hD12, hA12, hK12⟩
          have HK12 := Lib.hid (HK11.out.trans hK12)
          have hbn : ((nbucket t : Int) != (nbucket s : Int)) = false := by rw [hbb]; simp
          go_wp2_with (fail)
          go_ret
          exact ⟨0, ws', _, rfl, HF.out, hT11, hD12, hA12.mono (by omega), HK12.out⟩)
      · have hbi : ((nbucket t : Int) == (nbucket s : Int)) = false := beq_eq_false_iff_ne.2 (fun h => hbb (by omega))
        rcases hfr with ⟨j, hj, rfl, hj2⟩ | ⟨rfl, hj2⟩
        · have HF := Lib.hid (show MovR T s t 0 (updS (updS T (nbucket t) j (some (t, u))) (nbucket s) k none) from .inr ⟨k, u, hk, HU.out, .inr ⟨fun j v hj => HV.out j v hj, .inr (.inr ⟨hbb, j, hj, hj2, rfl, rfl⟩)⟩⟩)
          have HX := Lib.hid (show ∀ e, some (t, u) = some e → EntOk e ∧ nbucket e.1 = nbucket t from fun e he => by cases he; exact ⟨⟨hn2, HE.out.2⟩, rfl⟩)
          have HN := Lib.hid (show ∀ e, some (t, u) = some e → ∀ k' e', k' < 4 → k' ≠ j → T (nbucket t) k' = some e' → e.1 ≠ e'.1 from fun e he k' e' hk' _ hT' hne => by cases he; obtain ⟨e1, e2⟩ := e'; simp only at hne; subst hne; exact HV.out k' e2 hk' hT')
          have hu2 := HE.out.2.2
          have HU2 := Lib.hid hu2
          have hj0 : ¬ (j : Int) < 0 := by omega
          clear hu2 hj2
          go_wp2_with (fail)
          refine (get_b hD4 hA4 HT.out (by omega) hc1 hbl hk hcl (fun i h1 h2 => hS i false (.inl ⟨h1, h2⟩))).mono ?_
          rintro e w6 ⟨rfl, hD6, hA6, hK6⟩
          have HK6 := Lib.hid (HK4.out.trans hK6)
          clear hD4 hA4 hK6
          have HNU := Lib.hid (get_num hD6 hA6 (sW0 (T (nbucket s) k)) (sW1 (T (nbucket s) k)) (sW2 (T (nbucket s) k)) HVN.out)
          obtain ⟨z, hz⟩ : ∃ z : Int, (u : Int) = z := ⟨_, rfl⟩
          rw [hz] at HNU
          have HZ := Lib.hid hz
          clear hz hD6 hA6
          go_wp2_with (go_at_call 35; refine HNU.out.mono ?_; rintro e w7 ⟨rfl, hD7, hA7, hK7⟩)
          have HK7 := Lib.hid (HK6.out.trans hK7)
          clear hK7
          refine (bucket_b hD7 hA7 t).mono ?_
          rintro e w8 ⟨rfl, hD8, hA8, hK8⟩
          have HK8 := Lib.hid (HK7.out.trans hK8)
          clear hD7 hA7 hK8
          go_wp2_with (fail)
          refine (bucket_b hD8 hA8 t).mono ?_
          rintro e w9 ⟨rfl, hD9, hA9, hK9⟩
          have HK9 := Lib.hid (HK8.out.trans hK9)
          clear hD8 hA8 hK9
          go_wp2_with (fail)
          refine (pack_b hD9 hA9 t ht u HU2.out HZ.out).mono ?_
          rintro e w10 ⟨rfl, hD10, hA10, hK10⟩
          have HK10 := Lib.hid (HK9.out.trans hK10)
          clear hD9 hA9 hK10
          go_wp2_with (fail)
          have HPT := Lib.hid (put_b hD10 hA10 HT.out (by omega) hc1 hbl2 hj hcl (fun i h1 h2 => hS i true (.inr ⟨h1, h2⟩)) (some (t, u)) (v0 := headW t u) (v1 := firstW t) (v2 := secondW t) rfl rfl rfl HX.out HN.out)
          clear hD10 hA10
          refine HPT.out.mono ?_
          rintro e w11 ⟨rfl, ws', hT11, hD11, hA11, hK11⟩
          have HK11 := Lib.hid (HK10.out.trans hK11)
          clear hK11 HPT
          go_wp2_with (fail)
          refine (bucket_b hD11 hA11 t).mono ?_
          rintro e w12 ⟨rfl, hD12, hA12, hK12⟩
          have HK12 := Lib.hid (HK11.out.trans hK12)
          clear hD11 hA11 hK12
          have hbn : ((nbucket t : Int) != (nbucket s : Int)) = true := by rw [bne, hbi]; rfl
          go_wp2_with (fail)
          have HPN := Lib.hid (put_b hD12 hA12 hT11 (by omega) hc1 hbl hk hcl (fun i h1 h2 => hS i true (.inl ⟨h1, h2⟩)) none (v0 := 0) (v1 := 0) (v2 := 0) rfl rfl rfl (fun e he => by cases he) (fun e he => by cases he))
          refine HPN.out.mono ?_
          rintro e w13 ⟨rfl, ws'', hT13, hD13, hA13, hK13⟩
          go_wp2_with (fail)
          go_ret
          exact ⟨0, ws'', _, rfl, HF.out, hT13, hD13, hA13.mono (by omega), HK12.out.trans hK13⟩
        · have HF := Lib.hid (show MovR T s t 902 T from .inr ⟨k, u, hk, HU.out, .inr ⟨fun j v hj => HV.out j v hj, .inl ⟨hbb, hj2, rfl, rfl⟩⟩⟩)
          clear hj2
          go_wp2_with (go_at_call 32; refine (bucket_b hD4 hA4 t).mono ?_; rintro e w5 ⟨rfl, hD5, hA5, hK5⟩)
          go_ret
          exact ⟨902, ws, T, rfl, HF.out, HT.out, hD5, hA5.mono (by omega), HK4.out.trans hK5⟩
  · have HF := Lib.hid (show MovR T s t 903 T from .inl ⟨fun k u hk => hu k u hk, rfl, rfl⟩)
    clear hu
    go_wp2_with (fail)
    go_ret
    exact ⟨903, ws, T, rfl, HF.out, HT.out, hD2, hA2.mono (by omega), HK2.out⟩
end
end Go.Proofs.Ytkbajjpdngfhbaa
