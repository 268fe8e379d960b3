
/- refs: count, Inc, Dec, Global, Epoch. -/
import Derived.Test.YtokldnmhhhaalaaRefs
import Derived.Deep.DeepCutAuto
namespace Go.Proofs.Ytokldnmhhhaalaa
open Go.RowKit
set_option maxHeartbeats 1000000

section
variable {L : Nat → Prop} {w : World} {a x : Nat} {ws : List Int} {n m : Nat} {P : List (List Acc) → Prop} {f o : Int} {T : Int → Int → Int}

/-- The table behind a count of core c for object j. -/
def cntT (T : Int → Int → Int) (o c j v : Int) : Int → Int → Int := upd2 (upd2 T c j v) c (o + 1) (orI (T c (o + 1)) ((2 ^ j.toNat : Nat) : Int))
/-- A core's row of words. -/
def rwSet (f o c : Int) (y : Acc) : Prop := f + c * (o + 2) ≤ y.1 ∧ y.1 ≤ f + c * (o + 2) + (o + 1)

theorem rcount_err (h : RcAt L w x a f o) (hA : ArP L w a ws n m P) (c j b : Int) (hc : c < 0 ∨ (n : Int) ≤ c) :
    Calls Try.prog 42 #[.pointer (some ⟨x, 0, none⟩), .int .i64 c, .int .i64 j, .int .i64 b] w fun e w' => e = .returned (.int .i64 600) ∧ w = w' := by
  have hco := Lib.hid (rcore_no h hA c hc)
  clear h hA
  go_enter Try.func42, Try.ntmps42
  go_wp2_with (go_at_call 43; refine hco.out.mono ?_; rintro e w' ⟨rfl, rfl⟩)
  go_ret
  exact ⟨rfl, rfl⟩
theorem rcount_obj (h : RcAt L w x a f o) (hA : ArP L w a ws n m P) (c j b : Int) (hc : 0 ≤ c ∧ c < n) (hj : j < 0 ∨ o ≤ j) :
    Calls Try.prog 42 #[.pointer (some ⟨x, 0, none⟩), .int .i64 c, .int .i64 j, .int .i64 b] w fun e w' => e = .returned (.int .i64 601) ∧ w = w' := by
  have q2 := h.2.1.cell 2
  have hco := Lib.hid (rcore_yes h hA c hc)
  clear h hA
  have hj2 : j < 0 ∨ (¬ j < 0 ∧ o ≤ j) := by omega
  rcases hj2 with hj | ⟨hj0, hj⟩
  · go_enter Try.func42, Try.ntmps42
    go_wp2_with (go_at_call 43; refine hco.out.mono ?_; rintro e w' ⟨rfl, rfl⟩)
    go_ret
    exact ⟨rfl, rfl⟩
  · go_enter Try.func42, Try.ntmps42
    go_wp2_with (go_at_call 43; refine hco.out.mono ?_; rintro e w' ⟨rfl, rfl⟩)
    go_ret
    exact ⟨rfl, rfl⟩

set_option maxRecDepth 100000 in
theorem rcount_ok (h : RcAt L w x a f o) (hA : ArP L w a ws n m P) (hm : m ≤ 1099511627770) (hM : Mx ws f n o T) (c j b : Int) (hc : 0 ≤ c ∧ c < n) (hj : 0 ≤ j ∧ j < o) {v : Int} (hv : wrap64 (T c j + b) = v) (hw : W62 (T c (o + 1))) {S : Acc → Prop} (hS : ∀ y, rwSet f o c y → S y) (hcl : Cl n P c S) :
    Calls Try.prog 42 #[.pointer (some ⟨x, 0, none⟩), .int .i64 c, .int .i64 j, .int .i64 b] w fun e w' => e = .returned (.int .i64 0) ∧ ∃ ws', Mx ws' f n o (cntT T o c j v) ∧ ArP L w' a ws' n (m + 3) P ∧ Keeps L w w' := by
  have hn := hA.tsl
  have hwl := hA.wsl
  have hco := Lib.hid (rcore_yes h hA c hc)
  have hxl := h.1
  have q0 := h.2.1.cell 0
  have q2 := h.2.1.cell 2
  have HR := Lib.hid (fun W (d : Nat) (hb : RcAt L W x a f o) => rrow_calls (w := W.drewN d) (L := L) (x := x) (a := a) (f := f) (o := o) ⟨hb.1, hb.2.1, hb.2.2⟩ c (by omega))
  have HX := Lib.hid h
  have ho := h.2.2.2
  have hin1 := hM.in_ hc.1 (by omega) hj.1 (i := j) (by omega)
  have hin2 := hM.in_ hc.1 (by omega) (i := o + 1) (by omega) (by omega)
  have hr1 := hM.at_ c j hc.1 (by omega) hj.1 (by omega)
  have hr2 := hM.at_ c (o + 1) hc.1 (by omega) (by omega) (by omega)
  have hM1 := hM.set hc.1 (by omega) hj.1 (i := j) (by omega) v
  have hr3 := hM1.at_ c (o + 1) hc.1 (by omega) (by omega) (by omega)
  have HM2 := Lib.hid (hM1.set hc.1 (by omega) (i := o + 1) (by omega) (by omega) (orI (T c (o + 1)) ((2 ^ j.toNat : Nat) : Int)))
  have hu : upd2 T c j v c (o + 1) = T c (o + 1) := by unfold upd2; rw [if_neg (by omega)]
  rw [hu] at hr3
  have hS1 : S (f + c * (o + 2) + j, true) := hS _ ⟨by show f + c * (o + 2) ≤ f + c * (o + 2) + j; omega, by show f + c * (o + 2) + j ≤ f + c * (o + 2) + (o + 1); omega⟩
  have hS2 : ∀ bb, S (f + c * (o + 2) + (o + 1), bb) := fun bb => hS _ ⟨by show f + c * (o + 2) ≤ f + c * (o + 2) + (o + 1); omega, Int.le_refl _⟩
  have HW1 := Lib.hid (show IntKind.i64.wrap (2 ^ j.toNat) = ((2 ^ j.toNat : Nat) : Int) by have h := one_shl (i := j.toNat) (by omega); rwa [Int.one_mul] at h)
  have HOR := Lib.hid (bits_or hw (pow_W62 (i := j.toNat) (by omega)))
  generalize hB : f + c * (o + 2) = B at *
  have e3 : B + (o + 1) = B + o + 1 := by omega
  rw [e3] at hin2 hr2 hr3 hS2 HM2
  have HIN := Lib.hid hin2
  have HR3 := Lib.hid hr3
  have HS1 := Lib.hid hS1
  have HS2 := Lib.hid hS2
  have HA := Lib.hid hA
  have HV := Lib.hid (show wrap64 (rd ws (B + j) + b) = v by rw [hr1]; exact hv)
  have HC := Lib.hid hcl
  have e1 : IntKind.i64.wrap (B + j) = B + j := IntWalk.i64_in _ (by omega)
  have e2 : IntKind.i64.wrap (B + o) = B + o := IntWalk.i64_in _ (by omega)
  have e4 : IntKind.i64.wrap (B + o + 1) = B + o + 1 := IntWalk.i64_in _ (by omega)
  have hj0 := hj.1
  have hjn : ¬ j < 0 := by omega
  have hjo : ¬ o ≤ j := by omega
  generalize hws : wr ws (B + j) v = ws1 at *
  have HWS := Lib.hid hws
  clear h hA hM hM1 hr1 hr2 hr3 hS1 hS2 hw hcl hv hin2 hws
  go_enter Try.func42, Try.ntmps42
  go_upto_region 7 with (go_at_call 43; refine hco.out.mono ?_; rintro e w' ⟨rfl, rfl⟩)
  go_region_held3 (fun w' => w'.cell? ⟨x, 0, none⟩ = some (.pointer (some ⟨a, 0, none⟩))) (first | exact q0 | exact hK4.cellOf hxl q0)
    ((first
      | (go_at_call 45; refine (HR.out _ _ HX.out).mono ?_; rintro e w' ⟨rfl, d, rfl⟩)
      | (go_at_call 47; refine (add_p (HA.out.drewN _) (by omega) hc hin1 HV.out HWS.out HC.out HS1.out).mono ?_; rintro e w4 ⟨rfl, hA4, hK4⟩)))
  have hx4 := Lib.hid (HX.out.keep hK4.undrewN)
  have q4 := hK4.undrewN.cellOf hxl q0
  have q5 := hK4.undrewN.cellOf hxl q2
  have HK4 := Lib.hid hK4.undrewN
  clear q0 q2 hK4
  go_upto_region 8 with (fail)
  go_region_held3 (fun w' => w'.cell? ⟨x, 2, none⟩ = some (.int .i64 o)) (first | exact q5)
    ((first
      | (go_at_call 45; refine (HR.out _ _ hx4.out).mono ?_; rintro e w' ⟨rfl, d5, rfl⟩)))
  clear e1 e2 e4
  go_wp2_with (fail)
  refine (load_p (hA4.drewN _) (by omega) hc (by simpa [← HWS.out] using HIN.out) HR3.out HC.out (HS2.out _)).mono ?_
  rintro e w6 ⟨rfl, hA6, hK6⟩
  have q6 := hK6.undrewN.cellOf hxl q4
  have HK6 := Lib.hid hK6.undrewN
  clear q4 q5 hK6 hA4
  go_upto_region 10 with (fail)
  go_region_held3 (fun w' => w'.cell? ⟨x, 0, none⟩ = some (.pointer (some ⟨a, 0, none⟩))) (first | exact q6 | exact hK9.cellOf hxl q6)
    ((first
      | (go_at_call 46; rw [HW1.out, HOR.out]; refine (store_p hA6.drew (by omega) hc (by simpa [← HWS.out] using HIN.out) rfl HC.out (HS2.out _)).mono ?_; rintro e w7 ⟨rfl, hA7, hK9⟩)))
  go_wp2
  go_ret
  exact ⟨rfl, _, HM2.out, hA7.mono (by omega), (HK4.out.trans HK6.out).trans hK9.undrew⟩
end
end Go.Proofs.Ytokldnmhhhaalaa
