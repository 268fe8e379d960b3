
/- alloc: bits of a share; length, take, Get, Free, Left. -/
import Derived.Test.YtacjpchcaknacaaAlloc
namespace Go.Proofs.Ytacjpchcaknacaa
open Go.RowKit
set_option maxHeartbeats 1000000

section
variable {L : Nat → Prop} {w : World} {a x : Nat} {ws : List Int} {n m : Nat} {P : List (List Acc) → Prop} {f s k b z : Int} {had beg : Int → Bool}

theorem shSet_at {y : Int} {wf : Bool} (h0 : b ≤ y) (h1 : y < b + 2 * k + z) : shSet b (b + 2 * k + z) (y, wf) := ⟨h0, h1⟩
theorem abit0 (h : AlcAt L w x a f s k) (hA : ArP L w a ws n m P) (hm : m ≤ 1099511627770) (hsh : Sh ws b k z had beg) (c : Int) (hb : f + c * s = b) (hz : s - 2 * k = z) (hc : 0 ≤ c ∧ c < n) (j : Int) (j0 : 0 ≤ j) (j1 : j < z) (hcl : Cl n P c (shSet b (b + 2 * k + z))) :
    Calls Try.prog 59 #[.pointer (some ⟨x, 0, none⟩), .int .i64 c, .int .i64 0, .int .i64 j] w fun e w' => e = .returned (.bool (had j)) ∧ ArP L w' a ws n (m + 1) P ∧ Keeps L w w' := by
  obtain ⟨h1, h2, h3⟩ := hsh.had_at j0 j1
  have h4 := hsh.zk; have h5 := hsh.k0
  have := abit_raw h hA hm c 0 j 0 hc (by omega) (by omega) ⟨j0, by have := h.2.2.2.1; omega⟩ (p := b + j / 62) (by omega) h1 h2 (shSet_at (by omega) (by omega)) hcl
  rw [h3] at this
  exact this
theorem abit1 (h : AlcAt L w x a f s k) (hA : ArP L w a ws n m P) (hm : m ≤ 1099511627770) (hsh : Sh ws b k z had beg) (c : Int) (hb : f + c * s = b) (hz : s - 2 * k = z) (hc : 0 ≤ c ∧ c < n) (j : Int) (j0 : 0 ≤ j) (j1 : j < z) (hcl : Cl n P c (shSet b (b + 2 * k + z))) :
    Calls Try.prog 59 #[.pointer (some ⟨x, 0, none⟩), .int .i64 c, .int .i64 1, .int .i64 j] w fun e w' => e = .returned (.bool (beg j)) ∧ ArP L w' a ws n (m + 1) P ∧ Keeps L w w' := by
  obtain ⟨h1, h2, h3⟩ := hsh.beg_at j0 j1
  have h4 := hsh.zk; have h5 := hsh.k0
  have := abit_raw h hA hm c 1 j k hc (by omega) h.2.2.2.2 ⟨j0, by have := h.2.2.2.1; omega⟩ (p := b + k + j / 62) (by omega) h1 h2 (shSet_at (by omega) (by omega)) hcl
  rw [h3] at this
  exact this
theorem aset0 (h : AlcAt L w x a f s k) (hA : ArP L w a ws n m P) (hm : m ≤ 1099511627770) (hsh : Sh ws b k z had beg) (c : Int) (hb : f + c * s = b) (hz : s - 2 * k = z) (hc : 0 ≤ c ∧ c < n) (j : Int) (v : Bool) (j0 : 0 ≤ j) (j1 : j < z) (hcl : Cl n P c (shSet b (b + 2 * k + z))) :
    Calls Try.prog 69 #[.pointer (some ⟨x, 0, none⟩), .int .i64 c, .int .i64 0, .int .i64 j, .bool v] w fun e w' => e = .returned (.tuple #[]) ∧ ∃ ws', Sh ws' b k z (updB had j v) beg ∧ Within ws ws' b (b + 2 * k + z) ∧ ArP L w' a ws' n (m + 2) P ∧ Keeps L w w' := by
  obtain ⟨h1, h2, h3⟩ := hsh.had_at j0 j1
  have h4 := hsh.zk; have h5 := hsh.k0
  refine (aset_raw h hA hm c 0 j 0 v hc (by omega) (by omega) ⟨j0, by have := h.2.2.2.1; omega⟩ (p := b + j / 62) (by omega) h1 h2 (shSet_at (by omega) (by omega)) (shSet_at (by omega) (by omega)) hcl).mono ?_
  rintro e w' ⟨rfl, hA', hK'⟩
  exact ⟨rfl, _, hsh.set0 j0 j1 v, Within.wr h1 (by omega) (by omega), hA', hK'⟩
theorem aset1 (h : AlcAt L w x a f s k) (hA : ArP L w a ws n m P) (hm : m ≤ 1099511627770) (hsh : Sh ws b k z had beg) (c : Int) (hb : f + c * s = b) (hz : s - 2 * k = z) (hc : 0 ≤ c ∧ c < n) (j : Int) (v : Bool) (j0 : 0 ≤ j) (j1 : j < z) (hcl : Cl n P c (shSet b (b + 2 * k + z))) :
    Calls Try.prog 69 #[.pointer (some ⟨x, 0, none⟩), .int .i64 c, .int .i64 1, .int .i64 j, .bool v] w fun e w' => e = .returned (.tuple #[]) ∧ ∃ ws', Sh ws' b k z had (updB beg j v) ∧ Within ws ws' b (b + 2 * k + z) ∧ ArP L w' a ws' n (m + 2) P ∧ Keeps L w w' := by
  obtain ⟨h1, h2, h3⟩ := hsh.beg_at j0 j1
  have h4 := hsh.zk; have h5 := hsh.k0
  refine (aset_raw h hA hm c 1 j k v hc (by omega) h.2.2.2.2 ⟨j0, by have := h.2.2.2.1; omega⟩ (p := b + k + j / 62) (by omega) h1 h2 (shSet_at (by omega) (by omega)) (shSet_at (by omega) (by omega)) hcl).mono ?_
  rintro e w' ⟨rfl, hA', hK'⟩
  exact ⟨rfl, _, hsh.set1 j0 j1 v, Within.wr h1 (by omega) (by omega), hA', hK'⟩

theorem asize_z (h : AlcAt L w x a f s k) (hz : s - 2 * k = z) :
    Calls Try.prog 58 #[.pointer (some ⟨x, 0, none⟩)] w fun e w' => e = .returned (.int .i64 z) ∧ ∃ d, w' = w.drewN d := by
  subst hz
  exact asize_calls h

/-- A piece ends where its words do, or where none is had, or where another begins. -/
def PieceEnd (had beg : Int → Bool) (z j r : Int) : Prop := j + r = z ∨ had (j + r) = false ∨ beg (j + r) = true

theorem alength_calls (h : AlcAt L w x a f s k) (hA : ArP L w a ws n m P) (hm : m ≤ 1099511000000) (hsh : Sh ws b k z had beg) (c : Int) (hb : f + c * s = b) (hz : s - 2 * k = z) (hc : 0 ≤ c ∧ c < n) (j r : Int) (j0 : 0 ≤ j) (hp : Piece had beg z j r) (he : PieceEnd had beg z j r) (hcl : Cl n P c (shSet b (b + 2 * k + z))) :
    Calls Try.prog 68 #[.pointer (some ⟨x, 0, none⟩), .int .i64 c, .int .i64 j] w fun e w' => e = .returned (.int .i64 r) ∧ ArP L w' a ws n (m + 140000) P ∧ Keeps L w w' := by
  have hz1 : z ≤ 65536 := by have := h.2.2.2.1; have := h.2.2.2.2; omega
  have hpf := hp.fit
  have hp1 := hp.n1
  have HH := Lib.hid h
  have HA := Lib.hid hA
  have HS := Lib.hid hsh
  have HP := Lib.hid hp
  have HE := Lib.hid he
  have HB := Lib.hid hb
  have HZ := Lib.hid hz
  have HCL := Lib.hid hcl
  clear h hA hsh hp he hb hz hcl
  go_enter Try.func68, Try.ntmps68
  go_wp2
  go_loopw [7] (fun i wr => ∃ t : Int, i = .int .i64 t ∧ 1 ≤ t ∧ t ≤ r ∧ AlcAt L wr x a f s k ∧ ArP L wr a ws n (m + 2 * t.toNat) P ∧ Keeps L w wr) (fun i _ => (r - intOf i).toNat)
  case atStart => exact ⟨1, rfl, by omega, by omega, HH.out, HA.out.mono (by omega), Keeps.refl _ _⟩
  case round =>
    obtain ⟨t, rfl, ht0, ht1, hx, hA, hK⟩ := hrel
    have e1 : IntKind.i64.wrap (j + t) = j + t := IntWalk.i64_in _ (by omega)
    have HX := Lib.hid hx
    have HA2 := Lib.hid hA
    have hA3 := Lib.hid (fun d => hA.drewN d)
    clear hx hA
    by_cases htr : t < r
    · obtain ⟨p1, p2⟩ := HP.out.mid (j + t) (by omega) (by omega)
      have hjz : j + t < z := by omega
      have H0 := Lib.hid (fun d => (abit0 (w := wr.drewN d) ⟨HX.out.1, HX.out.2.1, HX.out.2.2⟩ (HA2.out.drewN d) (by omega) HS.out c HB.out HZ.out hc (j + t) (by omega) hjz HCL.out))
      rw [p1] at H0
      clear p1
      go_wp2_with (fail)
      refine (asize_z HX.out HZ.out).mono ?_
      rintro e w' ⟨rfl, d, rfl⟩
      go_wp2_with (fail)
      refine (H0.out d).mono ?_
      rintro e w4 ⟨rfl, hA4, hK4⟩
      have hx4 : AlcAt L w4 x a f s k := HX.out.keep hK4.undrewN
      have H1 := Lib.hid (abit1 hx4 hA4 (by omega) HS.out c HB.out HZ.out hc (j + t) (by omega) hjz HCL.out)
      rw [p2] at H1
      clear p2
      go_wp2_with (fail)
      refine H1.out.mono ?_
      rintro e w5 ⟨rfl, hA5, hK5⟩
      go_wp2_with (fail)
      clear e1
      go_roundw
      case rel => exact ⟨t + 1, by go_num, by omega, by omega, hx4.keep hK5, hA5.mono (by omega), hK.trans (hK4.undrewN.trans hK5)⟩
      case measure => simp [intOf]; omega
    · obtain rfl : t = r := by omega
      rcases HE.out with h1 | h1
      · have hjz : ¬ j + t < z := by omega
        go_wp2_with (first
          | (go_at_call 58; refine (asize_z HX.out HZ.out).mono ?_; rintro e w' ⟨rfl, d, rfl⟩))
        go_ret
        exact ⟨rfl, (hA3.out _).mono (by omega), hK.drewN _⟩
      · by_cases hjz : j + t < z
        · have H0 := Lib.hid (fun d => (abit0 (w := wr.drewN d) ⟨HX.out.1, HX.out.2.1, HX.out.2.2⟩ (HA2.out.drewN d) (by omega) HS.out c HB.out HZ.out hc (j + t) (by omega) hjz HCL.out))
          rcases Bool.eq_false_or_eq_true (had (j + t)) with hh | hh
          · rw [hh] at H0
            have hb : beg (j + t) = true := by rcases h1 with h1 | h1; rw [hh] at h1; cases h1; exact h1
            clear h1 hh
            go_wp2_with (fail)
            refine (asize_z HX.out HZ.out).mono ?_
            rintro e w' ⟨rfl, d, rfl⟩
            go_wp2_with (fail)
            refine (H0.out d).mono ?_
            rintro e w4 ⟨rfl, hA4, hK4⟩
            have hx4 : AlcAt L w4 x a f s k := HX.out.keep hK4.undrewN
            have H1 := Lib.hid (abit1 hx4 hA4 (by omega) HS.out c HB.out HZ.out hc (j + t) (by omega) hjz HCL.out)
            rw [hb] at H1
            clear hb
            go_wp2_with (fail)
            refine H1.out.mono ?_
            rintro e w5 ⟨rfl, hA5, hK5⟩
            go_wp2_with (fail)
            go_ret
            exact ⟨rfl, hA5.mono (by omega), hK.trans (hK4.undrewN.trans hK5)⟩
          · rw [hh] at H0
            clear h1 hh
            go_wp2_with (first
              | (go_at_call 58; refine (asize_z HX.out HZ.out).mono ?_; rintro e w' ⟨rfl, d, rfl⟩)
              | (go_at_call 59; refine (H0.out _).mono ?_; rintro e w4 ⟨rfl, hA4, hK4⟩))
            go_ret
            exact ⟨rfl, hA4.mono (by omega), hK.trans hK4.undrewN⟩
        · clear h1
          go_wp2_with (first
            | (go_at_call 58; refine (asize_z HX.out HZ.out).mono ?_; rintro e w' ⟨rfl, d, rfl⟩))
          go_ret
          exact ⟨rfl, (hA3.out _).mono (by omega), hK.drewN _⟩

/-- What a piece given away leaves. -/
theorem atake_calls (h : AlcAt L w x a f s k) (hA : ArP L w a ws n m P) (hm : m ≤ 1099511000000) (hsh : Sh ws b k z had beg) (c : Int) (hb : f + c * s = b) (hz : s - 2 * k = z) (hc : 0 ≤ c ∧ c < n) (q r : Int) (q0 : 0 ≤ q) (hr : 1 ≤ r ∧ r ≤ 32) (hq : q + r ≤ z) (hcl : Cl n P c (shSet b (b + 2 * k + z))) :
    Calls Try.prog 60 #[.pointer (some ⟨x, 0, none⟩), .int .i64 c, .int .i64 q, .int .i64 r] w fun e w' => e = .returned (.int .i64 (b + 2 * k + q)) ∧ ∃ ws', Sh ws' b k z (upto had q r true) (updB beg q true) ∧ Within ws ws' b (b + 2 * k + z) ∧ ArP L w' a ws' n (m + 200) P ∧ Keeps L w w' := by
  have hz1 : z ≤ 65536 := by have := h.2.2.2.1; have := h.2.2.2.2; omega
  have hk1 := h.2.2.2.2
  have hn := hA.tsl
  have hwl := hA.wsl
  have hb1 : 0 ≤ b ∧ b + 2 * k + z ≤ 65536 := by have := hsh.b0; have := hsh.fit; omega
  have hxl := h.1
  have q3 := h.2.1.cell 3
  have HBA := Lib.hid (fun d => abase_calls (w := w.drewN d) (L := L) (a := a) (f := f) (s := s) (k := k) ⟨h.1, h.2.1, h.2.2⟩ c ⟨hc.1, by omega⟩)
  have HH := Lib.hid h
  have HA := Lib.hid hA
  have HS := Lib.hid hsh
  have HB := Lib.hid hb
  have HZ := Lib.hid hz
  have HCL := Lib.hid hcl
  rw [hb] at HBA
  have e0 : IntKind.i64.wrap (2 * k) = 2 * k := IntWalk.i64_in _ (by omega)
  have e1 : IntKind.i64.wrap (b + 2 * k) = b + 2 * k := IntWalk.i64_in _ (by omega)
  have e2 : IntKind.i64.wrap (b + 2 * k + q) = b + 2 * k + q := IntWalk.i64_in _ (by omega)
  clear h hA hsh hb hz hcl
  go_enter Try.func60, Try.ntmps60
  go_wp2
  go_region_held3 (fun w' => w'.cell? ⟨x, 3, none⟩ = some (.int .i64 k)) (first | exact q3)
    ((first
      | (go_at_call 67; refine (HBA.out _).mono ?_; rintro e w' ⟨rfl, d, rfl⟩)))
  clear e0 e1 e2
  go_wp2_with (fail)
  refine (aset1 (w := w.drewN _) ⟨HH.out.1, HH.out.2.1, HH.out.2.2⟩ (HA.out.drewN _) (by omega) HS.out c HB.out HZ.out hc q true q0 (by omega) HCL.out).mono ?_
  rintro e w4 ⟨rfl, ws4, hS4, hW4, hA4, hK4⟩
  have hx4 : AlcAt L w4 x a f s k := HH.out.keep hK4.undrewN
  have hS4' : Sh ws4 b k z (upto had q 0 true) (updB beg q true) := by rw [upto_zero]; exact hS4
  have HST := Lib.hid (show AlcAt L w4 x a f s k ∧ ∃ ws5, Sh ws5 b k z (upto had q 0 true) (updB beg q true) ∧ Within ws ws5 b (b + 2 * k + z) ∧ ArP L w4 a ws5 n (m + 2) P ∧ Keeps L w w4 from ⟨hx4, ws4, hS4', hW4, hA4, hK4.undrewN⟩)
  clear hS4 hW4 hA4 hK4 hx4 hS4' q3
  go_wp2_with (fail)
  go_loopw [27] (fun i wr => ∃ t : Int, i = .int .i64 t ∧ 0 ≤ t ∧ t ≤ r ∧ AlcAt L wr x a f s k ∧ ∃ ws5, Sh ws5 b k z (upto had q t true) (updB beg q true) ∧ Within ws ws5 b (b + 2 * k + z) ∧ ArP L wr a ws5 n (m + 2 + 3 * t.toNat) P ∧ Keeps L w wr) (fun i _ => (r - intOf i).toNat)
  case atStart => exact ⟨0, rfl, by omega, by omega, HST.out⟩
  case round =>
    clear HST
    obtain ⟨t, rfl, ht0, ht1, hx, ws5, hS, hW, hA, hK⟩ := hrel
    have HX := Lib.hid hx
    have HS5 := Lib.hid hS
    have HW5 := Lib.hid hW
    by_cases htr : t < r
    · have hwl5 := hA.wsl
      have hfit := hS.fit
      have e1 : IntKind.i64.wrap (q + t) = q + t := IntWalk.i64_in _ (by omega)
      have e2 : IntKind.i64.wrap (b + 2 * k + q + t) = b + 2 * k + q + t := IntWalk.i64_in _ (by omega)
      clear hx hS hW
      go_wp2_with (fail)
      refine (aset0 HX.out hA (by omega) HS5.out c HB.out HZ.out hc (q + t) true (by omega) (by omega) HCL.out).mono ?_
      rintro e w6 ⟨rfl, ws6, hS6, hW6, hA6, hK6⟩
      have q0' := (HX.out.keep hK6).2.1.cell 0
      have HS6 := Lib.hid hS6
      have HW6 := Lib.hid hW6
      have hl6 := hW6.1
      clear hS6 hW6
      go_wp2_with (fail)
      refine (store_p hA6 (by omega) hc (i := b + 2 * k + q + t) (v := 0) ⟨by omega, by omega⟩ rfl HCL.out (shSet_at (by omega) (by omega))).mono ?_
      rintro e w7 ⟨rfl, hA7, hK7⟩
      clear e1 e2
      go_wp2_with (fail)
      go_roundw
      case rel =>
        refine ⟨t + 1, by go_num, by omega, by omega, (HX.out.keep hK6).keep hK7, _, ?_, (HW5.out.trans HW6.out).trans (Within.wr ⟨by omega, by omega⟩ (by omega) (by omega)), hA7.mono (by omega), hK.trans (hK6.trans hK7)⟩
        have := HS6.out.store (i := b + 2 * k + q + t) (by omega) (by omega) 0
        rw [upto_next had q ht0] at this
        exact this
      case measure => simp [intOf]; omega
    · obtain rfl : t = r := by omega
      clear hx hS hW
      go_wp2_with (fail)
      go_ret
      exact ⟨rfl, ws5, HS5.out, HW5.out, hA.mono (by omega), hK⟩
end
end Go.Proofs.Ytacjpchcaknacaa
