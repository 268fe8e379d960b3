
/- alloc: Get, Free, Left. -/
import Derived.Test.YtacjpchcaknacaaAlloc2
namespace Go.Proofs.Ytacjpchcaknacaa
open Go.RowKit
set_option maxHeartbeats 1000000

section
variable {L : Nat → Prop} {w : World} {a x : Nat} {ws : List Int} {n m : Nat} {P : List (List Acc) → Prop} {f s k b z : Int} {had beg : Int → Bool}

theorem aget_bad (h : AlcAt L w x a f s k) (hA : ArP L w a ws n m P) (c r : Int) (hc : c < 0 ∨ (n : Int) ≤ c) :
    Calls Try.prog 32 #[.pointer (some ⟨x, 0, none⟩), .int .i64 c, .int .i64 r] w fun e w' => e = .returned (.tuple #[.int .i64 0, .int .i64 403]) ∧ w = w' := by
  have H1 := Lib.hid (acore_no h hA c hc)
  clear h hA
  go_enter Try.func32, Try.ntmps32
  go_wp2_with (fail)
  refine H1.out.mono ?_
  rintro e w' ⟨rfl, rfl⟩
  go_wp2_with (fail)
  go_ret2
  exact ⟨rfl, rfl⟩

/-- What a Get answers: the first place where so many are free; or that there is none. -/
def GetEnd (L : Nat → Prop) (w : World) (a : Nat) (ws : List Int) (n m : Nat) (P : List (List Acc) → Prop) (b k z : Int) (had beg : Int → Bool) (r : Int) (e : Ending) (w' : World) : Prop :=
  (∃ q, 0 ≤ q ∧ q + r ≤ z ∧ Free had q r ∧ (∀ q', 0 ≤ q' → q' < q → ¬ Free had q' r) ∧ e = .returned (.tuple #[.int .i64 (b + 2 * k + q), .int .i64 0]) ∧
    ∃ ws', Sh ws' b k z (upto had q r true) (updB beg q true) ∧ Within ws ws' b (b + 2 * k + z) ∧ ArP L w' a ws' n (m + 70000) P ∧ Keeps L w w') ∨
  ((∀ q, 0 ≤ q → q + r ≤ z → ¬ Free had q r) ∧ e = .returned (.tuple #[.int .i64 0, .int .i64 401]) ∧ ArP L w' a ws n (m + 70000) P ∧ Keeps L w w')

theorem aget_calls (h : AlcAt L w x a f s k) (hA : ArP L w a ws n m P) (hm : m ≤ 1099510000000) (hsh : Sh ws b k z had beg) (c : Int) (hb : f + c * s = b) (hz : s - 2 * k = z) (hc : 0 ≤ c ∧ c < n) (r : Int) (hr : 1 ≤ r ∧ r ≤ 32) (hcl : Cl n P c (shSet b (b + 2 * k + z))) :
    Calls Try.prog 32 #[.pointer (some ⟨x, 0, none⟩), .int .i64 c, .int .i64 r] w (GetEnd L w a ws n m P b k z had beg r) := by
  have hz1 : z ≤ 65536 := by have := h.2.2.2.1; have := h.2.2.2.2; omega
  have hz0 := hsh.z0
  have hr1 := hr.1
  have hr2 := hr.2
  have H1 := Lib.hid (acore_yes h hA c hc)
  have HH := Lib.hid h
  have HA := Lib.hid hA
  have HS := Lib.hid hsh
  have HB := Lib.hid hb
  have HZ := Lib.hid hz
  have HCL := Lib.hid hcl
  clear h hA hsh hb hz hcl
  go_enter Try.func32, Try.ntmps32
  go_wp2_with (fail)
  refine H1.out.mono ?_
  rintro e w' ⟨rfl, rfl⟩
  go_wp2_with (fail)
  refine (asize_z HH.out HZ.out).mono ?_
  rintro e w' ⟨rfl, d, rfl⟩
  go_wp2_with (fail)
  have HST := Lib.hid (show AlcAt L (w.drewN d) x a f s k ∧ ArP L (w.drewN d) a ws n m P ∧ Keeps L w (w.drewN d) from ⟨⟨HH.out.1, HH.out.2.1, HH.out.2.2⟩, HA.out.drewN d, (Keeps.refl L w).drewN d⟩)
  go_loopw [8, 28] (fun fr i wr => ∃ j t : Int, i = .int .i64 j ∧ fr = .int .i64 t ∧ j ≤ z ∧ Fit had r j t ∧ AlcAt L wr x a f s k ∧ ArP L wr a ws n (m + j.toNat) P ∧ Keeps L w wr) (fun _ i _ => (z - intOf i).toNat)
  case atStart => exact ⟨0, 0, rfl, rfl, hz0, Fit.start had hr1, HST.out⟩
  case round =>
    clear HST
    obtain ⟨j, t, rfl, rfl, hj, hF, hx, hA, hK⟩ := hrel
    have ht0 := hF.r0
    have htj := hF.rj
    have htr := hF.rn
    have HF := Lib.hid hF
    have HX := Lib.hid hx
    by_cases hjz : j < z
    · clear hx hF
      have e1 : IntKind.i64.wrap (t + 1) = t + 1 := IntWalk.i64_in _ (by omega)
      have H2 := Lib.hid (abit0 HX.out hA (by omega) HS.out c HB.out HZ.out hc j (by omega) hjz HCL.out)
      go_wp2_with (fail)
      refine H2.out.mono ?_
      rintro e w4 ⟨rfl, hA4, hK4⟩
      clear H2 e1
      have hx4 := HX.out.keep hK4
      have HX4 := Lib.hid hx4
      clear hx4
      rcases Bool.eq_false_or_eq_true (had j) with hh | hh
      · have HF2 := Lib.hid (HF.out.hit hh)
        rw [hh]
        clear hh
        have e0 : ((0 : Int) == r) = false := by simp; omega
        go_wp2_with (fail)
        go_roundw
        case rel => exact ⟨j + 1, 0, by go_num, rfl, by omega, HF2.out, HX4.out, hA4.mono (by omega), hK.trans hK4⟩
        case measure => simp [intOf]; omega
      · rw [hh]
        by_cases hfound : t + 1 = r
        · have HF2 := Lib.hid (HF.out.found hh hfound)
          clear hh
          have e0 : ((t + 1 : Int) == r) = true := by simpa using hfound
          have e2 : IntKind.i64.wrap (j - r) = j - r := IntWalk.i64_in _ (by omega)
          have e3 : IntKind.i64.wrap (j - r + 1) = j - t := by rw [show j - r + 1 = j - t by omega]; exact IntWalk.i64_in _ (by omega)
          have HFO := Lib.hid hfound
          clear hfound
          go_wp2_with (fail)
          clear e0 e2
          refine (atake_calls HX4.out hA4 (by omega) HS.out c HB.out HZ.out hc (j - t) r (by omega) ⟨hr1, hr2⟩ (by have := HFO.out; omega) HCL.out).mono ?_
          rintro e w5 ⟨rfl, ws5, hS5, hW5, hA5, hK5⟩
          go_wp2_with (fail)
          go_ret2
          exact .inl ⟨j - t, by omega, by have := HFO.out; omega, HF2.out, HF.out.none, rfl, ws5, hS5, hW5, hA5.mono (by omega), hK.trans (hK4.trans hK5)⟩
        · have HF2 := Lib.hid (HF.out.miss hh (by omega))
          clear hh
          have e0 : ((t + 1 : Int) == r) = false := by simpa using hfound
          clear hfound
          go_wp2_with (fail)
          go_roundw
          case rel => exact ⟨j + 1, t + 1, by go_num, by go_num, by omega, HF2.out, HX4.out, hA4.mono (by omega), hK.trans hK4⟩
          case measure => simp [intOf]; omega
    · obtain rfl : j = z := by omega
      clear hx hF
      go_wp2_with (fail)
      go_ret2
      exact .inr ⟨fun q q0 q1 => HF.out.none q q0 (by omega), rfl, hA.mono (by omega), hK⟩

theorem afree_none (h : AlcAt L w x a f s k) (hA : ArP L w a ws n m P) (hm : m ≤ 1099510000000) (hsh : Sh ws b k z had beg) (c : Int) (hb : f + c * s = b) (hz : s - 2 * k = z) (hc : 0 ≤ c ∧ c < n) (q : Int) (q0 : 0 ≤ q) (q1 : q < z) (hq : beg q = false) (hcl : Cl n P c (shSet b (b + 2 * k + z))) :
    Calls Try.prog 44 #[.pointer (some ⟨x, 0, none⟩), .int .i64 c, .int .i64 (b + 2 * k + q)] w fun e w' => e = .returned (.int .i64 402) ∧ ArP L w' a ws n (m + 1) P ∧ Keeps L w w' := by
  have hz1 : z ≤ 65536 := by have := h.2.2.2.1; have := h.2.2.2.2; omega
  have hk1 := h.2.2.2.2
  have hn := hA.tsl
  have hwl := hA.wsl
  have hb1 : 0 ≤ b ∧ b + 2 * k + z ≤ 65536 := by have := hsh.b0; have := hsh.fit; omega
  have hxl := h.1
  have q3 := h.2.1.cell 3
  have HBA := Lib.hid (fun d => abase_calls (w := w.drewN d) (L := L) (a := a) (f := f) (s := s) (k := k) ⟨h.1, h.2.1, h.2.2⟩ c ⟨hc.1, by omega⟩)
  have H1 := Lib.hid (acore_yes h hA c hc)
  have HH := Lib.hid h
  have HA := Lib.hid hA
  have HS := Lib.hid hsh
  have HB := Lib.hid hb
  have HZ := Lib.hid hz
  have HCL := Lib.hid hcl
  rw [hb] at HBA
  have e0 : IntKind.i64.wrap (2 * k) = 2 * k := IntWalk.i64_in _ (by omega)
  have e1 : IntKind.i64.wrap (b + 2 * k + q - b) = 2 * k + q := by rw [show b + 2 * k + q - b = 2 * k + q by omega]; exact IntWalk.i64_in _ (by omega)
  have e2 : IntKind.i64.wrap (2 * k + q - 2 * k) = q := by rw [show 2 * k + q - 2 * k = q by omega]; exact IntWalk.i64_in _ (by omega)
  have HQ := Lib.hid hq
  clear h hA hsh hb hz hcl hq
  obtain ⟨at_, hat⟩ : ∃ at_ : Int, at_ = b + 2 * k + q := ⟨_, rfl⟩
  have hat0 : 0 ≤ at_ := by omega
  rw [← hat] at e1 ⊢
  clear hat
  go_enter Try.func44, Try.ntmps44
  go_wp2_with (fail)
  refine H1.out.mono ?_
  rintro e w' ⟨rfl, rfl⟩
  go_wp2_with (fail)
  go_region_held3 (fun w' => w'.cell? ⟨x, 3, none⟩ = some (.int .i64 k)) (first | exact q3)
    ((first
      | (go_at_call 67; refine (HBA.out _).mono ?_; rintro e w' ⟨rfl, d, rfl⟩)))
  clear e0 e1 e2
  go_wp2_with (fail)
  refine (asize_z (w := w.drewN _) ⟨HH.out.1, HH.out.2.1, HH.out.2.2⟩ HZ.out).mono ?_
  rintro e w' ⟨rfl, d2, rfl⟩
  go_wp2_with (fail)
  refine (abit1 (w := (w.drewN _)) ⟨HH.out.1, HH.out.2.1, HH.out.2.2⟩ (HA.out.drewN _) (by omega) HS.out c HB.out HZ.out hc q q0 q1 HCL.out).mono ?_
  rintro e w4 ⟨rfl, hA4, hK4⟩
  rw [HQ.out]
  go_wp2_with (fail)
  go_ret
  exact ⟨rfl, hA4, hK4.undrewN⟩

theorem afree_ok (h : AlcAt L w x a f s k) (hA : ArP L w a ws n m P) (hm : m ≤ 1099510000000) (hsh : Sh ws b k z had beg) (c : Int) (hb : f + c * s = b) (hz : s - 2 * k = z) (hc : 0 ≤ c ∧ c < n) (q r : Int) (q0 : 0 ≤ q) (q1 : q < z) (hq : beg q = true) (hp : Piece had beg z q r) (he : PieceEnd had beg z q r) (hcl : Cl n P c (shSet b (b + 2 * k + z))) :
    Calls Try.prog 44 #[.pointer (some ⟨x, 0, none⟩), .int .i64 c, .int .i64 (b + 2 * k + q)] w fun e w' => e = .returned (.int .i64 0) ∧ ∃ ws', Sh ws' b k z (upto had q r false) (updB beg q false) ∧ Within ws ws' b (b + 2 * k + z) ∧ ArP L w' a ws' n (m + 400000) P ∧ Keeps L w w' := by
  have hz1 : z ≤ 65536 := by have := h.2.2.2.1; have := h.2.2.2.2; omega
  have hk1 := h.2.2.2.2
  have hn := hA.tsl
  have hwl := hA.wsl
  have hb1 : 0 ≤ b ∧ b + 2 * k + z ≤ 65536 := by have := hsh.b0; have := hsh.fit; omega
  have hxl := h.1
  have hpf := hp.fit
  have hp1 := hp.n1
  have q3 := h.2.1.cell 3
  have HBA := Lib.hid (fun d => abase_calls (w := w.drewN d) (L := L) (a := a) (f := f) (s := s) (k := k) ⟨h.1, h.2.1, h.2.2⟩ c ⟨hc.1, by omega⟩)
  have H1 := Lib.hid (acore_yes h hA c hc)
  have HH := Lib.hid h
  have HA := Lib.hid hA
  have HS := Lib.hid hsh
  have HB := Lib.hid hb
  have HZ := Lib.hid hz
  have HCL := Lib.hid hcl
  have HP := Lib.hid hp
  have HE := Lib.hid he
  rw [hb] at HBA
  have e0 : IntKind.i64.wrap (2 * k) = 2 * k := IntWalk.i64_in _ (by omega)
  have e1 : IntKind.i64.wrap (b + 2 * k + q - b) = 2 * k + q := by rw [show b + 2 * k + q - b = 2 * k + q by omega]; exact IntWalk.i64_in _ (by omega)
  have e2 : IntKind.i64.wrap (2 * k + q - 2 * k) = q := by rw [show 2 * k + q - 2 * k = q by omega]; exact IntWalk.i64_in _ (by omega)
  have HQ := Lib.hid hq
  clear h hA hsh hb hz hcl hq hp he
  obtain ⟨at_, hat⟩ : ∃ at_ : Int, at_ = b + 2 * k + q := ⟨_, rfl⟩
  have hat0 : 0 ≤ at_ := by omega
  rw [← hat] at e1 ⊢
  clear hat
  go_enter Try.func44, Try.ntmps44
  go_wp2_with (fail)
  refine H1.out.mono ?_
  rintro e w' ⟨rfl, rfl⟩
  go_wp2_with (fail)
  go_region_held3 (fun w' => w'.cell? ⟨x, 3, none⟩ = some (.int .i64 k)) (first | exact q3)
    ((first
      | (go_at_call 67; refine (HBA.out _).mono ?_; rintro e w' ⟨rfl, d, rfl⟩)))
  clear e0 e1 e2
  go_wp2_with (fail)
  refine (asize_z (w := w.drewN _) ⟨HH.out.1, HH.out.2.1, HH.out.2.2⟩ HZ.out).mono ?_
  rintro e w' ⟨rfl, d2, rfl⟩
  go_wp2_with (fail)
  refine (abit1 (w := (w.drewN _)) ⟨HH.out.1, HH.out.2.1, HH.out.2.2⟩ (HA.out.drewN _) (by omega) HS.out c HB.out HZ.out hc q q0 q1 HCL.out).mono ?_
  rintro e w4 ⟨rfl, hA4, hK4⟩
  rw [HQ.out]
  have hx4 : AlcAt L w4 x a f s k := HH.out.keep hK4.undrewN
  have HX4 := Lib.hid hx4
  clear hx4 q3
  go_wp2_with (fail)
  refine (alength_calls HX4.out hA4 (by omega) HS.out c HB.out HZ.out hc q r q0 HP.out HE.out HCL.out).mono ?_
  rintro e w5 ⟨rfl, hA5, hK5⟩
  have HX5 := Lib.hid (HX4.out.keep hK5)
  go_wp2_with (fail)
  refine (aset1 HX5.out hA5 (by omega) HS.out c HB.out HZ.out hc q false q0 q1 HCL.out).mono ?_
  rintro e w6 ⟨rfl, ws6, hS6, hW6, hA6, hK6⟩
  have HST := Lib.hid (show AlcAt L w6 x a f s k ∧ ∃ ws5, Sh ws5 b k z (upto had q 0 false) (updB beg q false) ∧ Within ws ws5 b (b + 2 * k + z) ∧ ArP L w6 a ws5 n (m + 150000) P ∧ Keeps L w w6 from ⟨HX5.out.keep hK6, ws6, by rw [upto_zero]; exact hS6, hW6, hA6.mono (by omega), hK4.undrewN.trans (hK5.trans hK6)⟩)
  clear hS6 hW6 hA6 hK6 hA5 hK5 hA4 hK4
  go_wp2_with (fail)
  go_loopw [57] (fun i wr => ∃ t : Int, i = .int .i64 t ∧ 0 ≤ t ∧ t ≤ r ∧ AlcAt L wr x a f s k ∧ ∃ ws5, Sh ws5 b k z (upto had q t false) (updB beg q false) ∧ Within ws ws5 b (b + 2 * k + z) ∧ ArP L wr a ws5 n (m + 150000 + 2 * t.toNat) P ∧ Keeps L w wr) (fun i _ => (r - intOf i).toNat)
  case atStart => exact ⟨0, rfl, by omega, by omega, HST.out⟩
  case round =>
    clear HST
    obtain ⟨t, rfl, ht0, ht1, hx, ws5, hS, hW, hA, hK⟩ := hrel
    have HX := Lib.hid hx
    have HS5 := Lib.hid hS
    have HW5 := Lib.hid hW
    by_cases htr : t < r
    · have e1 : IntKind.i64.wrap (q + t) = q + t := IntWalk.i64_in _ (by omega)
      clear hx hS hW
      go_wp2_with (fail)
      refine (aset0 HX.out hA (by omega) HS5.out c HB.out HZ.out hc (q + t) false (by omega) (by omega) HCL.out).mono ?_
      rintro e w6 ⟨rfl, ws6, hS6, hW6, hA6, hK6⟩
      clear e1
      rw [upto_next had q ht0] at hS6
      have HS6 := Lib.hid hS6
      clear hS6
      go_wp2_with (fail)
      go_roundw
      case rel => exact ⟨t + 1, by go_num, by omega, by omega, HX.out.keep hK6, ws6, HS6.out, HW5.out.trans hW6, hA6.mono (by omega), hK.trans hK6⟩
      case measure => simp [intOf]; omega
    · obtain rfl : t = r := by omega
      clear hx hS hW
      go_wp2_with (fail)
      go_ret
      exact ⟨rfl, ws5, HS5.out, HW5.out, hA.mono (by omega), hK⟩

theorem afree_at (h : AlcAt L w x a f s k) (hA : ArP L w a ws n m P) (hm : m ≤ 1099510000000) (hsh : Sh ws b k z had beg) (c : Int) (hb : f + c * s = b) (hz : s - 2 * k = z) (hc : 0 ≤ c ∧ c < n) {at_ : Int} (q r : Int) (hat : at_ = b + 2 * k + q) (q0 : 0 ≤ q) (q1 : q < z) (hq : beg q = true) (hp : Piece had beg z q r) (he : PieceEnd had beg z q r) (hcl : Cl n P c (shSet b (b + 2 * k + z))) :
    Calls Try.prog 44 #[.pointer (some ⟨x, 0, none⟩), .int .i64 c, .int .i64 at_] w fun e w' => e = .returned (.int .i64 0) ∧ ∃ ws', Sh ws' b k z (upto had q r false) (updB beg q false) ∧ Within ws ws' b (b + 2 * k + z) ∧ ArP L w' a ws' n (m + 400000) P ∧ Keeps L w w' := by
  subst hat
  exact afree_ok h hA hm hsh c hb hz hc q r q0 q1 hq hp he hcl

theorem aleft_calls (h : AlcAt L w x a f s k) (hA : ArP L w a ws n m P) (hm : m ≤ 1099510000000) (hsh : Sh ws b k z had beg) (c : Int) (hb : f + c * s = b) (hz : s - 2 * k = z) (hc : 0 ≤ c ∧ c < n) (hcl : Cl n P c (shSet b (b + 2 * k + z))) :
    Calls Try.prog 43 #[.pointer (some ⟨x, 0, none⟩), .int .i64 c] w fun e w' => ∃ t, e = .returned (.int .i64 t) ∧ 0 ≤ t ∧ t ≤ z ∧ ArP L w' a ws n (m + 70000) P ∧ Keeps L w w' := by
  have hz1 : z ≤ 65536 := by have := h.2.2.2.1; have := h.2.2.2.2; omega
  have hz0 := hsh.z0
  have H1 := Lib.hid (acore_yes h hA c hc)
  have HH := Lib.hid h
  have HA := Lib.hid hA
  have HS := Lib.hid hsh
  have HB := Lib.hid hb
  have HZ := Lib.hid hz
  have HCL := Lib.hid hcl
  clear h hA hsh hb hz hcl
  go_enter Try.func43, Try.ntmps43
  go_wp2_with (fail)
  refine H1.out.mono ?_
  rintro e w' ⟨rfl, rfl⟩
  go_wp2_with (fail)
  refine (asize_z HH.out HZ.out).mono ?_
  rintro e w' ⟨rfl, d, rfl⟩
  go_wp2_with (fail)
  have HST := Lib.hid (show AlcAt L (w.drewN d) x a f s k ∧ ArP L (w.drewN d) a ws n m P ∧ Keeps L w (w.drewN d) from ⟨⟨HH.out.1, HH.out.2.1, HH.out.2.2⟩, HA.out.drewN d, (Keeps.refl L w).drewN d⟩)
  go_loopw [5, 17] (fun fr i wr => ∃ j t : Int, i = .int .i64 j ∧ fr = .int .i64 t ∧ 0 ≤ t ∧ t ≤ j ∧ j ≤ z ∧ AlcAt L wr x a f s k ∧ ArP L wr a ws n (m + j.toNat) P ∧ Keeps L w wr) (fun _ i _ => (z - intOf i).toNat)
  case atStart => exact ⟨0, 0, rfl, rfl, by omega, by omega, hz0, HST.out⟩
  case round =>
    clear HST
    obtain ⟨j, t, rfl, rfl, ht0, htj, hj, hx, hA, hK⟩ := hrel
    have HX := Lib.hid hx
    by_cases hjz : j < z
    · clear hx
      have H2 := Lib.hid (abit0 HX.out hA (by omega) HS.out c HB.out HZ.out hc j (by omega) hjz HCL.out)
      go_wp2_with (fail)
      refine H2.out.mono ?_
      rintro e w4 ⟨rfl, hA4, hK4⟩
      clear H2
      have HX4 := Lib.hid (HX.out.keep hK4)
      generalize had j = hh at *
      cases hh
      · go_wp2_with (fail)
        go_roundw
        case rel => exact ⟨j + 1, t + 1, by go_num, by go_num, by omega, by omega, by omega, HX4.out, hA4.mono (by omega), hK.trans hK4⟩
        case measure => simp [intOf]; omega
      · go_wp2_with (fail)
        go_roundw
        case rel => exact ⟨j + 1, t, by go_num, rfl, by omega, by omega, by omega, HX4.out, hA4.mono (by omega), hK.trans hK4⟩
        case measure => simp [intOf]; omega
    · obtain rfl : j = z := by omega
      clear hx
      go_wp2_with (fail)
      go_ret
      exact ⟨t, rfl, ht0, htj, hA.mono (by omega), hK⟩
end
end Go.Proofs.Ytacjpchcaknacaa
