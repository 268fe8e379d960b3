
/- refs: row, core, global, known, epoch, count, Inc, Dec, Global, Epoch. -/
import Derived.Test.YtokldnmhhhaalaaRefsP
import Derived.Deep.RegionHeld3
import Derived.Handy
namespace Go.Proofs.Ytokldnmhhhaalaa
open Go.RowKit
set_option maxHeartbeats 1000000

section
variable {L : Nat → Prop} {w : World} {a x : Nat} {ws : List Int} {n m : Nat} {P : List (List Acc) → Prop} {f o : Int} {T : Int → Int → Int}

/-- Counts over words from f on, of o objects. -/
def RcAt (L : Nat → Prop) (w : World) (x a : Nat) (f o : Int) : Prop := L x ∧ Blk w x 65 #[.pointer (some ⟨a, 0, none⟩), .int .i64 f, .int .i64 o] ∧ (0 ≤ f ∧ f ≤ 65536) ∧ (1 ≤ o ∧ o ≤ 60)
theorem RcAt.keep {w' : World} (h : RcAt L w x a f o) (hk : Keeps L w w') : RcAt L w' x a f o := ⟨h.1, hk.blk h.2.1 h.1, h.2.2⟩

theorem rrow_calls (h : RcAt L w x a f o) (c : Int) (hc : 0 ≤ c ∧ c ≤ 9) :
    Calls Try.prog 45 #[.pointer (some ⟨x, 0, none⟩), .int .i64 c] w fun e w' => e = .returned (.int .i64 (f + c * (o + 2))) ∧ ∃ d, w' = w.drewN d := by
  obtain ⟨_, hb, hf, ho⟩ := h
  have q1 := hb.cell 1
  have q2 := hb.cell 2
  have hm := row_bd hc.1 hc.2 ho
  have e1 : IntKind.i64.wrap (c * (o + 2)) = c * (o + 2) := IntWalk.i64_in _ (by omega)
  have e2 : IntKind.i64.wrap (f + c * (o + 2)) = f + c * (o + 2) := IntWalk.i64_in _ (by omega)
  clear hb
  go_enter Try.func45, Try.ntmps45
  go_wp2
  go_quiet (fail)
  go_wp2
  go_ret
  exact ⟨rfl, _, rfl⟩
theorem rcore_yes (h : RcAt L w x a f o) (hA : ArP L w a ws n m P) (c : Int) (hc : 0 ≤ c ∧ c < n) :
    Calls Try.prog 43 #[.pointer (some ⟨x, 0, none⟩), .int .i64 c] w fun e w' => e = .returned (.bool true) ∧ w = w' := by
  have q0 := h.2.1.cell 0
  have hco := Lib.hid (cores_p hA)
  clear h hA
  go_enter Try.func43, Try.ntmps43
  go_wp2_with (go_at_call 40; refine hco.out.mono ?_; rintro e w' ⟨rfl, rfl⟩)
  go_ret
  exact ⟨rfl, rfl⟩
theorem rcore_no (h : RcAt L w x a f o) (hA : ArP L w a ws n m P) (c : Int) (hc : c < 0 ∨ (n : Int) ≤ c) :
    Calls Try.prog 43 #[.pointer (some ⟨x, 0, none⟩), .int .i64 c] w fun e w' => e = .returned (.bool false) ∧ w = w' := by
  have q0 := h.2.1.cell 0
  have hco := Lib.hid (cores_p hA)
  clear h hA
  rcases hc with hc | hc
  · have hc' : ¬ 0 ≤ c := by omega
    go_enter Try.func43, Try.ntmps43
    go_wp2
    go_ret
    exact ⟨rfl, rfl⟩
  · have hc0 : 0 ≤ c := by omega
    go_enter Try.func43, Try.ntmps43
    go_wp2_with (go_at_call 40; refine hco.out.mono ?_; rintro e w' ⟨rfl, rfl⟩)
    go_ret
    exact ⟨congrArg (fun b => Ending.returned (Value.bool b)) (by simpa using hc), rfl⟩
theorem rglobal_calls (h : RcAt L w x a f o) (hA : ArP L w a ws n m P) (j : Int) (hj : 0 ≤ j ∧ j < o) :
    Calls Try.prog 48 #[.pointer (some ⟨x, 0, none⟩), .int .i64 j] w fun e w' => e = .returned (.int .i64 (f + n * (o + 2) + j)) ∧ ∃ d, w' = w.drewN d := by
  have q0 := h.2.1.cell 0
  have hn := hA.tsl
  have hco := Lib.hid (cores_p hA)
  have HR := Lib.hid (rrow_calls h (n : Int) (by omega))
  have hf := h.2.2.1
  have ho := h.2.2.2
  have hm := row_bd (show (0 : Int) ≤ n by omega) (show (n : Int) ≤ 9 by omega) ho
  have e2 : IntKind.i64.wrap (f + n * (o + 2) + j) = f + n * (o + 2) + j := IntWalk.i64_in _ (by omega)
  clear h hA
  go_enter Try.func48, Try.ntmps48
  go_wp2_with (first
    | (go_at_call 40; refine hco.out.mono ?_; rintro e w' ⟨rfl, rfl⟩)
    | (go_at_call 45; refine HR.out.mono ?_; rintro e w' ⟨rfl, d, rfl⟩))
  go_ret
  exact ⟨rfl, _, rfl⟩
theorem rknown_calls (h : RcAt L w x a f o) (hA : ArP L w a ws n m P) (j : Int) (hj : 0 ≤ j ∧ j < o) :
    Calls Try.prog 49 #[.pointer (some ⟨x, 0, none⟩), .int .i64 j] w fun e w' => e = .returned (.int .i64 (f + ((n : Int) + 1) * (o + 2) + j)) ∧ ∃ d, w' = w.drewN d := by
  have q0 := h.2.1.cell 0
  have hn := hA.tsl
  have hco := Lib.hid (cores_p hA)
  have HR := Lib.hid (rrow_calls h ((n : Int) + 1) (by omega))
  have hf := h.2.2.1
  have ho := h.2.2.2
  have hm := row_bd (show (0 : Int) ≤ (n : Int) + 1 by omega) (show (n : Int) + 1 ≤ 9 by omega) ho
  have e2 : IntKind.i64.wrap (f + ((n : Int) + 1) * (o + 2) + j) = f + ((n : Int) + 1) * (o + 2) + j := IntWalk.i64_in _ (by omega)
  clear h hA
  go_enter Try.func49, Try.ntmps49
  go_wp2_with (first
    | (go_at_call 40; refine hco.out.mono ?_; rintro e w' ⟨rfl, rfl⟩)
    | (go_at_call 45; refine HR.out.mono ?_; rintro e w' ⟨rfl, d, rfl⟩))
  go_ret
  exact ⟨rfl, _, rfl⟩
theorem repoch_calls (h : RcAt L w x a f o) (hA : ArP L w a ws n m P) :
    Calls Try.prog 52 #[.pointer (some ⟨x, 0, none⟩)] w fun e w' => e = .returned (.int .i64 (f + n * (o + 2) + o)) ∧ ∃ d, w' = w.drewN d := by
  have q0 := h.2.1.cell 0
  have q2 := h.2.1.cell 2
  have hn := hA.tsl
  have hco := Lib.hid (fun d => cores_p (hA.drewN d))
  have HR := Lib.hid (fun d => rrow_calls (w := w.drewN d) (L := L) (x := x) (a := a) (f := f) (o := o) ⟨h.1, h.2.1, h.2.2⟩ (n : Int) (by omega))
  have hf := h.2.2.1
  have ho := h.2.2.2
  have hm := row_bd (show (0 : Int) ≤ n by omega) (show (n : Int) ≤ 9 by omega) ho
  have e2 : IntKind.i64.wrap (f + n * (o + 2) + o) = f + n * (o + 2) + o := IntWalk.i64_in _ (by omega)
  clear h hA
  go_enter Try.func52, Try.ntmps52
  go_wp2
  go_region_held3 (fun w' => w'.cell? ⟨x, 0, none⟩ = some (.pointer (some ⟨a, 0, none⟩)) ∧ w'.cell? ⟨x, 2, none⟩ = some (.int .i64 o)) (first | exact ⟨q0, q2⟩)
    ((first
      | (go_at_call 40; refine (hco.out _).mono ?_; rintro e w' ⟨rfl, rfl⟩)
      | (go_at_call 45; refine (HR.out _).mono ?_; rintro e w' ⟨rfl, d, rfl⟩)))
  go_wp2
  go_ret
  exact ⟨rfl, _, rfl⟩
end
end Go.Proofs.Ytokldnmhhhaalaa
