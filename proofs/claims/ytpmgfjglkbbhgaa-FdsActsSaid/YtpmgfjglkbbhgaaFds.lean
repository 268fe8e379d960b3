
/- fds: New, Open, Get, Close, List; awake. -/
import Derived.Test.YtpmgfjglkbbhgaaOut
import Derived.Test.YtpmgfjglkbbhgaaInum
import Derived.Handy
namespace Go.Proofs.Ytpmgfjglkbbhgaa
open Go.RowKit
set_option maxHeartbeats 400000

theorem fplace_calls {x : Nat} {f : Int} {w : World} (hc : w.cell? ⟨x, 1, none⟩ = some (.int .i64 f)) (c d : Int) (h0 : 0 ≤ f ∧ f ≤ 65536) (h1 : 0 ≤ c ∧ c < 8) (h2 : 0 ≤ d ∧ d < 4) :
    Calls Try.prog 54 #[.pointer (some ⟨x, 0, none⟩), .int .i64 c, .int .i64 d] w fun e w' => e = .returned (.int .i64 (f + c * 4 + d)) ∧ w = w' := by
  go_enter Try.func54, Try.ntmps54
  go_wp2
  go_ret
  exact ⟨rfl, rfl⟩

section
variable {L : Nat → Prop} {w : World} {a x : Nat} {ws : List Int} {n m : Nat} {P : List (List Acc) → Prop} {f : Int}

/-- Descriptors' words from a word on. -/
def FdsAt (L : Nat → Prop) (w : World) (x a : Nat) (f : Int) : Prop := L x ∧ Blk w x 99 #[.pointer (some ⟨a, 0, none⟩), .int .i64 f]
theorem FdsAt.keep {w' : World} (h : FdsAt L w x a f) (hk : Keeps L w w') : FdsAt L w' x a f := ⟨h.1, hk.blk h.2 h.1⟩

theorem fcore_ok (hx : FdsAt L w x a f) (h : ArP L w a ws n m P) (c : Int) (h0 : 0 ≤ c ∧ c < n) :
    Calls Try.prog 53 #[.pointer (some ⟨x, 0, none⟩), .int .i64 c] w fun e w' => e = .returned (.int .i64 0) ∧ w = w' := by
  have q0 := hx.2.cell 0
  have hco := Lib.hid (cores_p h)
  clear hx h
  go_enter Try.func53, Try.ntmps53
  go_wp2_with (go_at_call 31; refine hco.out.mono ?_; rintro e w' ⟨rfl, rfl⟩)
  go_ret
  exact ⟨rfl, rfl⟩
theorem fcore_err (hx : FdsAt L w x a f) (h : ArP L w a ws n m P) (c : Int) (h0 : c < 0 ∨ (n : Int) ≤ c) :
    Calls Try.prog 53 #[.pointer (some ⟨x, 0, none⟩), .int .i64 c] w fun e w' => e = .returned (.int .i64 1200) ∧ w = w' := by
  have q0 := hx.2.cell 0
  have hco := Lib.hid (cores_p h)
  clear hx h
  by_cases h1 : c < 0
  · go_enter Try.func53, Try.ntmps53
    go_wp2
    go_ret
    exact ⟨rfl, rfl⟩
  · have h2 : 0 ≤ c := by omega
    have h3 : (n : Int) ≤ c := by omega
    go_enter Try.func53, Try.ntmps53
    go_wp2_with (go_at_call 31; refine hco.out.mono ?_; rintro e w' ⟨rfl, rfl⟩)
    go_ret
    exact ⟨rfl, rfl⟩

theorem open_err (hx : FdsAt L w x a f) (h : ArP L w a ws n m P) (c num : Int) (h0 : (c < 0 ∨ (n : Int) ≤ c) ∨ num < 1) :
    Calls Try.prog 38 #[.pointer (some ⟨x, 0, none⟩), .int .i64 c, .int .i64 num] w fun e w' => e = .returned (.tuple #[.int .i64 0, .int .i64 1200]) ∧ w = w' := by
  by_cases hc : c < 0 ∨ (n : Int) ≤ c
  · have hco := Lib.hid (fcore_err hx h c hc)
    clear hx h
    go_enter Try.func38, Try.ntmps38
    go_wp2_with (go_at_call 53; refine hco.out.mono ?_; rintro e w' ⟨rfl, rfl⟩)
    go_ret2
    exact ⟨rfl, rfl⟩
  · have hn : num < 1 := by omega
    have hco := Lib.hid (fcore_ok hx h c (by omega))
    clear hx h
    go_enter Try.func38, Try.ntmps38
    go_wp2_with (go_at_call 53; refine hco.out.mono ?_; rintro e w' ⟨rfl, rfl⟩)
    go_ret2
    exact ⟨rfl, rfl⟩

/-- The first free descriptor of four words. -/
def freeFd (ws : List Int) (b : Int) : Option Nat := (List.range 4).find? fun j => rd ws (b + j) == 0
/-- A core's words. -/
def fdSet (f c : Int) (y : Acc) : Prop := f + c * 4 ≤ y.1 ∧ y.1 < f + c * 4 + 4

theorem open_ok (hx : FdsAt L w x a f) (h : ArP L w a ws n m P) (hm : m ≤ 1099511627770) (c num : Int) (h0 : 0 ≤ c ∧ c < n) (hn : 1 ≤ num) (hf : 0 ≤ f) (hl : f + 4 * n ≤ ws.length) (hc : Cl n P c (fdSet f c))
    (j : Nat) (hj : j < 4) (hz : rd ws (f + c * 4 + j) = 0) (hnz : ∀ i : Nat, i < j → rd ws (f + c * 4 + i) ≠ 0) :
    Calls Try.prog 38 #[.pointer (some ⟨x, 0, none⟩), .int .i64 c, .int .i64 num] w fun e w' => e = .returned (.tuple #[.int .i64 j, .int .i64 0]) ∧ ArP L w' a (wr ws (f + c * 4 + j) num) n (m + 5) P ∧ Keeps L w w' := by
  have hco := Lib.hid (fcore_ok hx h c h0)
  have hwl := h.wsl
  have hnl := h.tsl
  have HX := Lib.hid hx
  have HA := Lib.hid h
  have HNZ := Lib.hid hnz
  have HC := Lib.hid hc
  have hc8 : 0 ≤ c ∧ c < 8 := by omega
  have hf8 : 0 ≤ f ∧ f ≤ 65536 := by omega
  clear hx h hnz hc
  have hn' : ¬ num < 1 := by omega
  go_enter Try.func38, Try.ntmps38
  go_wp2_with (go_at_call 53; refine hco.out.mono ?_; rintro e w' ⟨rfl, rfl⟩)
  go_loopw [20] (fun i wr => ∃ k : Nat, i = .int .i64 k ∧ k ≤ j ∧ FdsAt L wr x a f ∧ ArP L wr a ws n (m + k) P ∧ Keeps L w wr) (fun i _ => j - (intOf i).toNat)
  case atStart => exact ⟨0, rfl, Nat.zero_le _, HX.out, HA.out, Keeps.refl _ _⟩
  case round =>
    obtain ⟨k, rfl, hk, hx, hA, hK⟩ := hrel
    have k4 : (k : Int) < 4 := by omega
    have k0 : (0 : Int) ≤ (k : Int) := by omega
    have q0 := hx.2.cell 0
    have q1 := hx.2.cell 1
    have hxl := hx.1
    have HX2 := Lib.hid hx
    clear hx
    by_cases hkj : k = j
    · subst hkj
      go_wp2
      go_region_held3 (fun w' => w'.cell? ⟨x, 0, none⟩ = some (.pointer (some ⟨a, 0, none⟩)) ∧ w'.cell? ⟨x, 1, none⟩ = some (.int .i64 f)) (first | exact ⟨q0, q1⟩ | exact ⟨hK4.cellOf hxl q0, hK4.cellOf hxl q1⟩)
        ((first
          | (go_at_call 54; refine (fplace_calls (by exact q1) c k hf8 hc8 ⟨k0, k4⟩).mono ?_; rintro e w' ⟨rfl, rfl⟩)
          | (go_at_call 17; refine (load_p (r := 0) hA.drew (by omega) h0 ⟨by omega, by omega⟩ hz HC.out (by unfold fdSet; omega)).mono ?_; rintro e w4 ⟨rfl, hA4, hK4⟩)))
      go_wp2
      have q2 := hK4.cellOf hxl q0
      have q3 := hK4.cellOf hxl q1
      clear q0 q1
      go_region_held3 (fun w' => w'.cell? ⟨x, 0, none⟩ = some (.pointer (some ⟨a, 0, none⟩)) ∧ w'.cell? ⟨x, 1, none⟩ = some (.int .i64 f)) (first | exact ⟨q2, q3⟩ | exact ⟨hK9.cellOf hxl q2, hK9.cellOf hxl q3⟩)
        ((first
          | (go_at_call 54; refine (fplace_calls (by exact q3) c _ hf8 hc8 ⟨k0, k4⟩).mono ?_; rintro e w' ⟨rfl, rfl⟩)
          | (go_at_call 20; refine (store_p hA4.drew (by omega) h0 ⟨by omega, by omega⟩ rfl HC.out (by unfold fdSet; omega)).mono ?_; rintro e w5 ⟨rfl, hA5, hK9⟩)))
      go_wp2
      go_ret2
      exact ⟨rfl, hA5.mono (by omega), hK.trans (hK4.undrew.trans hK9.undrew)⟩
    · have hnz := HNZ.out k (by omega)
      generalize hv : rd ws (f + c * 4 + (k : Int)) = v at *
      have hv0 : (v == 0) = false := by simpa using hnz
      have HV := Lib.hid hv
      clear hv hnz
      go_wp2
      go_region_held3 (fun w' => w'.cell? ⟨x, 0, none⟩ = some (.pointer (some ⟨a, 0, none⟩)) ∧ w'.cell? ⟨x, 1, none⟩ = some (.int .i64 f)) (first | exact ⟨q0, q1⟩ | exact ⟨hK9.cellOf hxl q0, hK9.cellOf hxl q1⟩)
        ((first
          | (go_at_call 54; refine (fplace_calls (by exact q1) c _ hf8 hc8 ⟨k0, k4⟩).mono ?_; rintro e w' ⟨rfl, rfl⟩)
          | (go_at_call 17; refine (load_p (r := v) hA.drew (by omega) h0 ⟨by omega, by omega⟩ HV.out HC.out (by unfold fdSet; omega)).mono ?_; rintro e w4 ⟨rfl, hA4, hK9⟩)))
      go_wp2
      go_roundw
      case rel => exact ⟨k + 1, by go_num, by omega, HX2.out.keep hK9.undrew, hA4.mono (by omega), hK.trans hK9.undrew⟩
      case measure => simp [intOf]; omega

theorem open_full (hx : FdsAt L w x a f) (h : ArP L w a ws n m P) (hm : m ≤ 1099511627770) (c num : Int) (h0 : 0 ≤ c ∧ c < n) (hn : 1 ≤ num) (hf : 0 ≤ f) (hl : f + 4 * n ≤ ws.length) (hc : Cl n P c (fdSet f c))
    (hnz : ∀ i : Nat, i < 4 → rd ws (f + c * 4 + i) ≠ 0) :
    Calls Try.prog 38 #[.pointer (some ⟨x, 0, none⟩), .int .i64 c, .int .i64 num] w fun e w' => e = .returned (.tuple #[.int .i64 0, .int .i64 1201]) ∧ ArP L w' a ws n (m + 5) P ∧ Keeps L w w' := by
  have hco := Lib.hid (fcore_ok hx h c h0)
  have hwl := h.wsl
  have hnl := h.tsl
  have HX := Lib.hid hx
  have HA := Lib.hid h
  have HNZ := Lib.hid hnz
  have HC := Lib.hid hc
  have hc8 : 0 ≤ c ∧ c < 8 := by omega
  have hf8 : 0 ≤ f ∧ f ≤ 65536 := by omega
  clear hx h hnz hc
  have hn' : ¬ num < 1 := by omega
  go_enter Try.func38, Try.ntmps38
  go_wp2_with (go_at_call 53; refine hco.out.mono ?_; rintro e w' ⟨rfl, rfl⟩)
  go_loopw [20] (fun i wr => ∃ k : Nat, i = .int .i64 k ∧ k ≤ 4 ∧ FdsAt L wr x a f ∧ ArP L wr a ws n (m + k) P ∧ Keeps L w wr) (fun i _ => 4 - (intOf i).toNat)
  case atStart => exact ⟨0, rfl, Nat.zero_le _, HX.out, HA.out, Keeps.refl _ _⟩
  case round =>
    obtain ⟨k, rfl, hk, hx, hA, hK⟩ := hrel
    have k0 : (0 : Int) ≤ (k : Int) := by omega
    have q0 := hx.2.cell 0
    have q1 := hx.2.cell 1
    have hxl := hx.1
    have HX2 := Lib.hid hx
    clear hx
    by_cases hkj : k < 4
    · have k4 : (k : Int) < 4 := by omega
      have hnz := HNZ.out k hkj
      generalize hv : rd ws (f + c * 4 + (k : Int)) = v at *
      have hv0 : (v == 0) = false := by simpa using hnz
      have HV := Lib.hid hv
      clear hv hnz
      go_wp2
      go_region_held3 (fun w' => w'.cell? ⟨x, 0, none⟩ = some (.pointer (some ⟨a, 0, none⟩)) ∧ w'.cell? ⟨x, 1, none⟩ = some (.int .i64 f)) (first | exact ⟨q0, q1⟩ | exact ⟨hK9.cellOf hxl q0, hK9.cellOf hxl q1⟩)
        ((first
          | (go_at_call 54; refine (fplace_calls (by exact q1) c _ hf8 hc8 ⟨k0, k4⟩).mono ?_; rintro e w' ⟨rfl, rfl⟩)
          | (go_at_call 17; refine (load_p (r := v) hA.drew (by omega) h0 ⟨by omega, by omega⟩ HV.out HC.out (by unfold fdSet; omega)).mono ?_; rintro e w4 ⟨rfl, hA4, hK9⟩)))
      go_wp2
      go_roundw
      case rel => exact ⟨k + 1, by go_num, by omega, HX2.out.keep hK9.undrew, hA4.mono (by omega), hK.trans hK9.undrew⟩
      case measure => simp [intOf]; omega
    · have k4 : ¬ (k : Int) < 4 := by omega
      go_wp2
      go_ret2
      exact ⟨rfl, hA.mono (by omega), hK⟩

theorem get_err (hx : FdsAt L w x a f) (h : ArP L w a ws n m P) (c d : Int) (hc : c < 0 ∨ (n : Int) ≤ c) :
    Calls Try.prog 41 #[.pointer (some ⟨x, 0, none⟩), .int .i64 c, .int .i64 d] w fun e w' => e = .returned (.tuple #[.int .i64 0, .int .i64 1200]) ∧ w = w' := by
  have hco := Lib.hid (fcore_err hx h c hc)
  clear hx h
  go_enter Try.func41, Try.ntmps41
  go_wp2_with (go_at_call 53; refine hco.out.mono ?_; rintro e w' ⟨rfl, rfl⟩)
  go_ret2
  exact ⟨rfl, rfl⟩
theorem get_out (hx : FdsAt L w x a f) (h : ArP L w a ws n m P) (c d : Int) (hc : 0 ≤ c ∧ c < n) (hd : d < 0 ∨ 4 ≤ d) :
    Calls Try.prog 41 #[.pointer (some ⟨x, 0, none⟩), .int .i64 c, .int .i64 d] w fun e w' => e = .returned (.tuple #[.int .i64 0, .int .i64 1202]) ∧ w = w' := by
  have hco := Lib.hid (fcore_ok hx h c hc)
  clear hx h
  by_cases h1 : d < 0
  · go_enter Try.func41, Try.ntmps41
    go_wp2_with (go_at_call 53; refine hco.out.mono ?_; rintro e w' ⟨rfl, rfl⟩)
    go_ret2
    exact ⟨rfl, rfl⟩
  · have h2 : 0 ≤ d := by omega
    have h3 : 4 ≤ d := by omega
    go_enter Try.func41, Try.ntmps41
    go_wp2_with (go_at_call 53; refine hco.out.mono ?_; rintro e w' ⟨rfl, rfl⟩)
    go_ret2
    exact ⟨rfl, rfl⟩
theorem get_in (hx : FdsAt L w x a f) (h : ArP L w a ws n m P) (hm : m ≤ 1099511627770) (c d : Int) (h0 : 0 ≤ c ∧ c < n) (hd : 0 ≤ d ∧ d < 4) (hf : 0 ≤ f) (hl : f + 4 * n ≤ ws.length) (hc : Cl n P c (fdSet f c)) :
    Calls Try.prog 41 #[.pointer (some ⟨x, 0, none⟩), .int .i64 c, .int .i64 d] w fun e w' => e = .returned (.tuple #[.int .i64 (rd ws (f + c * 4 + d)), .int .i64 (if rd ws (f + c * 4 + d) = 0 then 1202 else 0)]) ∧ ArP L w' a ws n (m + 1) P ∧ Keeps L w w' := by
  have hco := Lib.hid (fcore_ok hx h c h0)
  have hwl := h.wsl
  have hnl := h.tsl
  have q0 := hx.2.cell 0
  have q1 := hx.2.cell 1
  have hxl := hx.1
  have HC := Lib.hid hc
  have HA := Lib.hid h
  have hc8 : 0 ≤ c ∧ c < 8 := by omega
  have hf8 : 0 ≤ f ∧ f ≤ 65536 := by omega
  have k0 := hd.1
  have k4 := hd.2
  clear hx h hc
  generalize hv : rd ws (f + c * 4 + d) = v at *
  have HV := Lib.hid hv
  clear hv
  by_cases hv0 : v = 0
  · subst hv0
    rw [if_pos rfl]
    go_enter Try.func41, Try.ntmps41
    go_wp2_with (go_at_call 53; refine hco.out.mono ?_; rintro e w' ⟨rfl, rfl⟩)
    go_region_held3 (fun w' => w'.cell? ⟨x, 0, none⟩ = some (.pointer (some ⟨a, 0, none⟩)) ∧ w'.cell? ⟨x, 1, none⟩ = some (.int .i64 f)) (first | exact ⟨q0, q1⟩ | exact ⟨hK9.cellOf hxl q0, hK9.cellOf hxl q1⟩)
        ((first
          | (go_at_call 54; refine (fplace_calls (by exact q1) c _ hf8 hc8 ⟨k0, k4⟩).mono ?_; rintro e w' ⟨rfl, rfl⟩)
          | (go_at_call 17; refine (load_p (r := 0) HA.out.drew (by omega) h0 ⟨by omega, by omega⟩ HV.out HC.out (by unfold fdSet; omega)).mono ?_; rintro e w4 ⟨rfl, hA4, hK9⟩)))
    go_wp2
    go_ret2
    exact ⟨rfl, hA4, hK9.undrew⟩
  · rw [if_neg hv0]
    have hv1 : (v == 0) = false := by simpa using hv0
    go_enter Try.func41, Try.ntmps41
    go_wp2_with (go_at_call 53; refine hco.out.mono ?_; rintro e w' ⟨rfl, rfl⟩)
    go_region_held3 (fun w' => w'.cell? ⟨x, 0, none⟩ = some (.pointer (some ⟨a, 0, none⟩)) ∧ w'.cell? ⟨x, 1, none⟩ = some (.int .i64 f)) (first | exact ⟨q0, q1⟩ | exact ⟨hK9.cellOf hxl q0, hK9.cellOf hxl q1⟩)
        ((first
          | (go_at_call 54; refine (fplace_calls (by exact q1) c _ hf8 hc8 ⟨k0, k4⟩).mono ?_; rintro e w' ⟨rfl, rfl⟩)
          | (go_at_call 17; refine (load_p (r := v) HA.out.drew (by omega) h0 ⟨by omega, by omega⟩ HV.out HC.out (by unfold fdSet; omega)).mono ?_; rintro e w4 ⟨rfl, hA4, hK9⟩)))
    go_wp2
    go_ret2
    exact ⟨rfl, hA4, hK9.undrew⟩

theorem close_err {k : Int} (c d : Int) (hk : (k != 0) = true) (hg : Calls Try.prog 41 #[.pointer (some ⟨x, 0, none⟩), .int .i64 c, .int .i64 d] w fun e w' => e = .returned (.tuple #[.int .i64 0, .int .i64 k]) ∧ w = w') :
    Calls Try.prog 39 #[.pointer (some ⟨x, 0, none⟩), .int .i64 c, .int .i64 d] w fun e w' => e = .returned (.int .i64 k) ∧ w = w' := by
  have hg := Lib.hid hg
  go_enter Try.func39, Try.ntmps39
  go_wp2_with (go_at_call 41; refine hg.out.mono ?_; rintro e w' ⟨rfl, rfl⟩)
  go_ret
  exact ⟨rfl, rfl⟩
theorem close_none (hx : FdsAt L w x a f) (h : ArP L w a ws n m P) (hm : m ≤ 1099511627770) (c d : Int) (h0 : 0 ≤ c ∧ c < n) (hd : 0 ≤ d ∧ d < 4) (hf : 0 ≤ f) (hl : f + 4 * n ≤ ws.length) (hc : Cl n P c (fdSet f c)) (hz : rd ws (f + c * 4 + d) = 0) :
    Calls Try.prog 39 #[.pointer (some ⟨x, 0, none⟩), .int .i64 c, .int .i64 d] w fun e w' => e = .returned (.int .i64 1202) ∧ ArP L w' a ws n (m + 1) P ∧ Keeps L w w' := by
  have hg := get_in hx h hm c d h0 hd hf hl hc
  rw [hz, if_pos rfl] at hg
  have hg := Lib.hid hg
  clear hx h hc hz
  go_enter Try.func39, Try.ntmps39
  go_wp2_with (go_at_call 41; refine hg.out.mono ?_; rintro e w4 ⟨rfl, hA4, hK4⟩)
  go_ret
  exact ⟨rfl, hA4, hK4⟩
theorem close_ok (hx : FdsAt L w x a f) (h : ArP L w a ws n m P) (hm : m ≤ 1099511627770) (c d : Int) (h0 : 0 ≤ c ∧ c < n) (hd : 0 ≤ d ∧ d < 4) (hf : 0 ≤ f) (hl : f + 4 * n ≤ ws.length) (hc : Cl n P c (fdSet f c)) (hz : rd ws (f + c * 4 + d) ≠ 0) :
    Calls Try.prog 39 #[.pointer (some ⟨x, 0, none⟩), .int .i64 c, .int .i64 d] w fun e w' => e = .returned (.int .i64 0) ∧ ArP L w' a (wr ws (f + c * 4 + d) 0) n (m + 2) P ∧ Keeps L w w' := by
  have hg := get_in hx h hm c d h0 hd hf hl hc
  rw [if_neg hz] at hg
  have hg := Lib.hid hg
  have hwl := h.wsl
  have hnl := h.tsl
  have q0 := hx.2.cell 0
  have q1 := hx.2.cell 1
  have hxl := hx.1
  have HC := Lib.hid hc
  have hc8 : 0 ≤ c ∧ c < 8 := by omega
  have hf8 : 0 ≤ f ∧ f ≤ 65536 := by omega
  have k0 := hd.1
  have k4 := hd.2
  clear hx h hc hz
  go_enter Try.func39, Try.ntmps39
  go_wp2_with (go_at_call 41; refine hg.out.mono ?_; rintro e w4 ⟨rfl, hA4, hK4⟩)
  have q2 := hK4.cellOf hxl q0
  have q3 := hK4.cellOf hxl q1
  clear q0 q1
  go_region_held3 (fun w' => w'.cell? ⟨x, 0, none⟩ = some (.pointer (some ⟨a, 0, none⟩)) ∧ w'.cell? ⟨x, 1, none⟩ = some (.int .i64 f)) (first | exact ⟨q2, q3⟩ | exact ⟨hK9.cellOf hxl q2, hK9.cellOf hxl q3⟩)
        ((first
          | (go_at_call 54; refine (fplace_calls (by exact q3) c _ hf8 hc8 ⟨k0, k4⟩).mono ?_; rintro e w' ⟨rfl, rfl⟩)
          | (go_at_call 20; refine (store_p hA4.drew (by omega) h0 ⟨by omega, by omega⟩ rfl HC.out (by unfold fdSet; omega)).mono ?_; rintro e w5 ⟨rfl, hA5, hK9⟩)))
  go_wp2
  go_ret
  exact ⟨rfl, hA5, hK4.trans hK9.undrew⟩
end
end Go.Proofs.Ytpmgfjglkbbhgaa
