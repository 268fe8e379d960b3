
/- alloc: base, size, core, bit, set, length. -/
import Derived.Test.YtacjpchcaknacaaAllocP
import Derived.Deep.RegionHeld3
import Derived.Handy
namespace Go.Proofs.Ytacjpchcaknacaa
open Go.RowKit
set_option maxHeartbeats 1000000

section
variable {L : Nat → Prop} {w : World} {a x : Nat} {ws : List Int} {n m : Nat} {P : List (List Acc) → Prop} {f s k : Int}

/-- An allocator over words from f on, a share of s words for each core, k words of each kind of bits. -/
def AlcAt (L : Nat → Prop) (w : World) (x a : Nat) (f s k : Int) : Prop := L x ∧ Blk w x 95 #[.pointer (some ⟨a, 0, none⟩), .int .i64 f, .int .i64 s, .int .i64 k] ∧ (0 ≤ f ∧ f ≤ 65536) ∧ (0 ≤ s ∧ s ≤ 65536) ∧ (0 ≤ k ∧ k ≤ 2000)
theorem AlcAt.keep {w' : World} (h : AlcAt L w x a f s k) (hk : Keeps L w w') : AlcAt L w' x a f s k := ⟨h.1, hk.blk h.2.1 h.1, h.2.2⟩
theorem mul_bd {c s : Int} (hc : 0 ≤ c ∧ c < 8) (hs : 0 ≤ s ∧ s ≤ 65536) : 0 ≤ c * s ∧ c * s ≤ 524288 :=
  ⟨Int.mul_nonneg hc.1 hs.1, Int.le_trans (Int.mul_le_mul (show c ≤ 8 by omega) hs.2 hs.1 (by omega)) (by omega)⟩

theorem abase_calls (h : AlcAt L w x a f s k) (c : Int) (hc : 0 ≤ c ∧ c < 8) :
    Calls Try.prog 67 #[.pointer (some ⟨x, 0, none⟩), .int .i64 c] w fun e w' => e = .returned (.int .i64 (f + c * s)) ∧ ∃ d, w' = w.drewN d := by
  obtain ⟨_, hb, hf, hs, hk⟩ := h
  have q1 := hb.cell 1
  have q2 := hb.cell 2
  have hm := mul_bd hc hs
  have e1 : IntKind.i64.wrap (c * s) = c * s := IntWalk.i64_in _ (by omega)
  have e2 : IntKind.i64.wrap (f + c * s) = f + c * s := IntWalk.i64_in _ (by omega)
  clear hb
  go_enter Try.func67, Try.ntmps67
  go_wp2
  go_quiet (fail)
  go_wp2
  go_ret
  exact ⟨rfl, _, rfl⟩
theorem asize_calls (h : AlcAt L w x a f s k) :
    Calls Try.prog 58 #[.pointer (some ⟨x, 0, none⟩)] w fun e w' => e = .returned (.int .i64 (s - 2 * k)) ∧ ∃ d, w' = w.drewN d := by
  obtain ⟨_, hb, hf, hs, hk⟩ := h
  have q1 := hb.cell 2
  have q2 := hb.cell 3
  have e1 : IntKind.i64.wrap (2 * k) = 2 * k := IntWalk.i64_in _ (by omega)
  have e2 : IntKind.i64.wrap (s - 2 * k) = s - 2 * k := IntWalk.i64_in _ (by omega)
  clear hb
  go_enter Try.func58, Try.ntmps58
  go_wp2
  go_quiet (fail)
  go_wp2
  go_ret
  exact ⟨rfl, _, rfl⟩
theorem acore_yes (h : AlcAt L w x a f s k) (hA : ArP L w a ws n m P) (c : Int) (hc : 0 ≤ c ∧ c < n) :
    Calls Try.prog 57 #[.pointer (some ⟨x, 0, none⟩), .int .i64 c] w fun e w' => e = .returned (.bool true) ∧ w = w' := by
  have q0 := h.2.1.cell 0
  have hco := Lib.hid (cores_p hA)
  clear h hA
  go_enter Try.func57, Try.ntmps57
  go_wp2_with (go_at_call 51; refine hco.out.mono ?_; rintro e w' ⟨rfl, rfl⟩)
  go_ret
  exact ⟨rfl, rfl⟩
theorem acore_no (h : AlcAt L w x a f s k) (hA : ArP L w a ws n m P) (c : Int) (hc : c < 0 ∨ (n : Int) ≤ c) :
    Calls Try.prog 57 #[.pointer (some ⟨x, 0, none⟩), .int .i64 c] w fun e w' => e = .returned (.bool false) ∧ w = w' := by
  have q0 := h.2.1.cell 0
  have hco := Lib.hid (cores_p hA)
  clear h hA
  rcases hc with hc | hc
  · have hc' : ¬ 0 ≤ c := by omega
    go_enter Try.func57, Try.ntmps57
    go_wp2
    go_ret
    exact ⟨rfl, rfl⟩
  · have hc0 : 0 ≤ c := by omega
    go_enter Try.func57, Try.ntmps57
    go_wp2_with (go_at_call 51; refine hco.out.mono ?_; rintro e w' ⟨rfl, rfl⟩)
    go_ret
    exact ⟨congrArg (fun b => Ending.returned (Value.bool b)) (by simpa using hc), rfl⟩

/-- A core's words. -/
def shSet (b e : Int) (y : Acc) : Prop := b ≤ y.1 ∧ y.1 < e

/-- A bit of kind 0 or 1 (kd * k tells where its words begin). -/
theorem abit_raw (h : AlcAt L w x a f s k) (hA : ArP L w a ws n m P) (hm : m ≤ 1099511627770) (c kd j o : Int) (hc : 0 ≤ c ∧ c < n) (hkd : kd * k = o) (ho : 0 ≤ o ∧ o ≤ 2000) (hj : 0 ≤ j ∧ j < 65536)
    {p : Int} (hp : f + c * s + o + j / 62 = p) (hin : 0 ≤ p ∧ p < ws.length) (hw : W62 (rd ws p)) {S : Acc → Prop} (hS : S (p, false)) (hcl : Cl n P c S) :
    Calls Try.prog 59 #[.pointer (some ⟨x, 0, none⟩), .int .i64 c, .int .i64 kd, .int .i64 j] w fun e w' => e = .returned (.bool (bitOf (rd ws p) (j % 62).toNat)) ∧ ArP L w' a ws n (m + 1) P ∧ Keeps L w w' := by
  have hn := hA.tsl
  have hxl := h.1
  have q0 := h.2.1.cell 0
  have q3 := h.2.1.cell 3
  have hbd := mul_bd (c := c) (s := s) ⟨hc.1, by omega⟩ h.2.2.2.1
  have HB := Lib.hid (fun d => abase_calls (w := w.drewN d) (L := L) (a := a) (f := f) (s := s) (k := k) ⟨h.1, h.2.1, h.2.2⟩ c ⟨hc.1, by omega⟩)
  have hf := h.2.2.1
  have HA := Lib.hid hA
  have HT := Lib.hid (bit_told (i := (j % 62).toNat) hw)
  have e0 : IntKind.i64.wrap (kd * k) = o := by rw [hkd]; exact IntWalk.i64_in _ (by omega)
  have e1 : IntKind.i64.wrap (f + c * s + o) = f + c * s + o := IntWalk.i64_in _ (by omega)
  have e2 : IntKind.i64.wrap (f + c * s + o + j / 62) = p := by rw [hp]; exact IntWalk.i64_in _ (by have := HA.out.wsl; omega)
  have e3 : IntKind.i64.wrap (j.tdiv 62) = j / 62 := by rw [Int.tdiv_eq_ediv_of_nonneg hj.1]; exact IntWalk.i64_in _ (by omega)
  have hj1 := hj.1
  have HJ := Lib.hid (show j.tdiv 62 = j / 62 from Int.tdiv_eq_ediv_of_nonneg hj.1)
  clear h hA hkd hp
  generalize hv : rd ws p = v at *
  have HV := Lib.hid hv
  clear hv
  go_enter Try.func59, Try.ntmps59
  go_wp2
  go_region_held3 (fun w' => w'.cell? ⟨x, 0, none⟩ = some (.pointer (some ⟨a, 0, none⟩)) ∧ w'.cell? ⟨x, 3, none⟩ = some (.int .i64 k)) (first | exact ⟨q0, q3⟩ | exact ⟨hK9.cellOf hxl q0, hK9.cellOf hxl q3⟩)
    ((first
      | (go_at_call 67; refine (HB.out _).mono ?_; rintro e w' ⟨rfl, d, rfl⟩)
      | (go_at_call 24; refine (load_p (r := v) (HA.out.drewN _) (by omega) hc hin HV.out hcl hS).mono ?_; rintro e w4 ⟨rfl, hA4, hK9⟩)))
  clear e0 e1 e2 e3
  go_wp2
  go_ret
  refine ⟨?_, hA4, hK9.undrewN⟩
  rw [← HT.out]
  rfl

/-- A bit set to b. -/
theorem aset_raw (h : AlcAt L w x a f s k) (hA : ArP L w a ws n m P) (hm : m ≤ 1099511627770) (c kd j o : Int) (b : Bool) (hc : 0 ≤ c ∧ c < n) (hkd : kd * k = o) (ho : 0 ≤ o ∧ o ≤ 2000) (hj : 0 ≤ j ∧ j < 65536)
    {p : Int} (hp : f + c * s + o + j / 62 = p) (hin : 0 ≤ p ∧ p < ws.length) (hw : W62 (rd ws p)) {S : Acc → Prop} (hS : S (p, false)) (hS2 : S (p, true)) (hcl : Cl n P c S) :
    Calls Try.prog 69 #[.pointer (some ⟨x, 0, none⟩), .int .i64 c, .int .i64 kd, .int .i64 j, .bool b] w fun e w' => e = .returned (.tuple #[]) ∧ ArP L w' a (wr ws p (setBit (rd ws p) (j % 62).toNat b)) n (m + 2) P ∧ Keeps L w w' := by
  have hn := hA.tsl
  have hxl := h.1
  have q0 := h.2.1.cell 0
  have q3 := h.2.1.cell 3
  have hbd := mul_bd (c := c) (s := s) ⟨hc.1, by omega⟩ h.2.2.2.1
  have HB := Lib.hid (fun d => abase_calls (w := w.drewN d) (L := L) (a := a) (f := f) (s := s) (k := k) ⟨h.1, h.2.1, h.2.2⟩ c ⟨hc.1, by omega⟩)
  have hf := h.2.2.1
  have HA := Lib.hid hA
  have HW1 := Lib.hid (one_shl64 (i := (j % 62).toNat) (by omega))
  have HW2 := Lib.hid (andNot_bit (i := (j % 62).toNat) hw (by omega))
  have HW3 := Lib.hid (or_bit (i := (j % 62).toNat) hw (by omega))
  have e0 : IntKind.i64.wrap (kd * k) = o := by rw [hkd]; exact IntWalk.i64_in _ (by omega)
  have e1 : IntKind.i64.wrap (f + c * s + o) = f + c * s + o := IntWalk.i64_in _ (by omega)
  have e2 : IntKind.i64.wrap (f + c * s + o + j / 62) = p := by rw [hp]; exact IntWalk.i64_in _ (by have := HA.out.wsl; omega)
  have e3 : IntKind.i64.wrap (j.tdiv 62) = j / 62 := by rw [Int.tdiv_eq_ediv_of_nonneg hj.1]; exact IntWalk.i64_in _ (by omega)
  have hj1 := hj.1
  clear h hA hkd hp
  generalize hv : rd ws p = v at *
  have HV := Lib.hid hv
  clear hv
  go_enter Try.func69, Try.ntmps69
  go_wp2
  go_region_held3 (fun w' => w'.cell? ⟨x, 0, none⟩ = some (.pointer (some ⟨a, 0, none⟩)) ∧ w'.cell? ⟨x, 3, none⟩ = some (.int .i64 k)) (first | exact ⟨q0, q3⟩ | exact ⟨hK9.cellOf hxl q0, hK9.cellOf hxl q3⟩)
    ((first
      | (go_at_call 67; refine (HB.out _).mono ?_; rintro e w' ⟨rfl, d, rfl⟩)))
  clear e0 e1 e2 e3
  go_wp2_with (fail)
  refine (load_p (r := v) (HA.out.drewN _) (by omega) hc hin HV.out hcl hS).mono ?_
  rintro e w4 ⟨rfl, hA4, hK9⟩
  have q5 := hK9.cellOf hxl q0
  cases b
  rotate_left
  · go_wp2_with (fail)
    rw [HW1.out, HW2.out, HW3.out]
    refine (store_p hA4 (by omega) hc hin rfl hcl hS2).mono ?_
    rintro e w5 ⟨rfl, hA5, hK5⟩
    go_wp2
    go_end0
    exact ⟨rfl, hA5, hK9.undrewN.trans hK5⟩
  · go_wp2_with (fail)
    rw [HW1.out, HW2.out]
    refine (store_p hA4 (by omega) hc hin rfl hcl hS2).mono ?_
    rintro e w5 ⟨rfl, hA5, hK5⟩
    go_wp2
    go_end0
    exact ⟨rfl, hA5, hK9.undrewN.trans hK5⟩

end
end Go.Proofs.Ytacjpchcaknacaa
