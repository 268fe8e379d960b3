
/- radix: New, Set, Get, Cut, Pages. -/
import Derived.Test.YtacjpchcaknacaaOut
import Derived.Handy
import Derived.Maps.AppendAt
import Derived.Deep.AppendLies
namespace Go.Proofs.Ytacjpchcaknacaa
open Go.RowKit
set_option maxHeartbeats 400000

section
variable {L : Nat → Prop} {w : World} {a x : Nat} {ws : List Int} {n m : Nat} {P : List (List Acc) → Prop} {f : Int} {g : Int → Int}

def RadAt (L : Nat → Prop) (w : World) (x a : Nat) (f : Int) : Prop := L x ∧ Blk w x 101 #[.pointer (some ⟨a, 0, none⟩), .int .i64 f]
theorem RadAt.keep {w' : World} (h : RadAt L w x a f) (hk : Keeps L w w') : RadAt L w' x a f := ⟨h.1, hk.blk h.2 h.1⟩

/-- The pages' numbers are g. -/
def Rx (ws : List Int) (f : Int) (g : Int → Int) : Prop := 0 ≤ f ∧ f + 20 ≤ ws.length ∧ ∀ p, 0 ≤ p → p < 16 → rd ws (f + 4 + p) = g p ∧ (rd ws (f + p / 4) = 0 → g p = 0)

theorem node_calls {w : World} (hc : w.cell? ⟨x, 1, none⟩ = some (.int .i64 f)) (p : Int) (h0 : 0 ≤ f ∧ f ≤ 65536) (h1 : 0 ≤ p ∧ p < 16) :
    Calls Try.prog 62 #[.pointer (some ⟨x, 0, none⟩), .int .i64 p] w fun e w' => e = .returned (.int .i64 (f + p / 4)) ∧ w = w' := by
  have ht : p.tdiv 4 = p / 4 := Int.tdiv_eq_ediv_of_nonneg h1.1
  go_enter Try.func62, Try.ntmps62
  go_wp2
  go_ret
  exact ⟨rfl, rfl⟩
theorem slot_calls {w : World} (hc : w.cell? ⟨x, 1, none⟩ = some (.int .i64 f)) (p : Int) (h0 : 0 ≤ f ∧ f ≤ 65536) (h1 : 0 ≤ p ∧ p < 16) :
    Calls Try.prog 63 #[.pointer (some ⟨x, 0, none⟩), .int .i64 p] w fun e w' => e = .returned (.int .i64 (f + 4 + p)) ∧ w = w' := by
  go_enter Try.func63, Try.ntmps63
  go_wp2
  go_ret
  exact ⟨rfl, rfl⟩

def mayErr (n : Nat) (c p l : Int) : Int := if c < 0 ∨ (n : Int) ≤ c then 701 else if p < 0 ∨ l ≤ p then 700 else 0
theorem may_calls (hx : RadAt L w x a f) (h : ArP L w a ws n m P) (c p l : Int) :
    Calls Try.prog 61 #[.pointer (some ⟨x, 0, none⟩), .int .i64 c, .int .i64 p, .int .i64 l] w fun e w' => e = .returned (.int .i64 (mayErr n c p l)) ∧ w = w' := by
  have q0 := hx.2.cell 0
  have hco := Lib.hid (cores_p h)
  clear hx h
  unfold mayErr
  by_cases h1 : c < 0
  · rw [if_pos (.inl h1)]
    go_enter Try.func61, Try.ntmps61
    go_wp2
    go_ret
    exact ⟨rfl, rfl⟩
  by_cases h2 : (n : Int) ≤ c
  · rw [if_pos (.inr h2)]
    have h3 : 0 ≤ c := by omega
    go_enter Try.func61, Try.ntmps61
    go_wp2_with (go_at_call 51; refine hco.out.mono ?_; rintro e w' ⟨rfl, rfl⟩)
    go_ret
    exact ⟨rfl, rfl⟩
  rw [if_neg (by omega)]
  by_cases h3 : p < 0
  · rw [if_pos (.inl h3)]
    go_enter Try.func61, Try.ntmps61
    go_wp2_with (go_at_call 51; refine hco.out.mono ?_; rintro e w' ⟨rfl, rfl⟩)
    go_ret
    exact ⟨rfl, rfl⟩
  by_cases h4 : l ≤ p
  · rw [if_pos (.inr h4)]
    have h5 : 0 ≤ p := by omega
    go_enter Try.func61, Try.ntmps61
    go_wp2_with (go_at_call 51; refine hco.out.mono ?_; rintro e w' ⟨rfl, rfl⟩)
    go_ret
    exact ⟨rfl, rfl⟩
  · rw [if_neg (by omega)]
    go_enter Try.func61, Try.ntmps61
    go_wp2_with (go_at_call 51; refine hco.out.mono ?_; rintro e w' ⟨rfl, rfl⟩)
    go_ret
    exact ⟨rfl, rfl⟩

/-- What looking at a page touches. -/
def rdSet (f p : Int) (y : Acc) : Prop := y = (f + p / 4, false) ∨ y = (f + 4 + p, false)

theorem rget_calls (hx : RadAt L w x a f) (h : ArP L w a ws n m P) (hm : m ≤ 1099511627770) (hr : Rx ws f g) (c p : Int) (h0 : 0 ≤ c ∧ c < n) (h1 : 0 ≤ p ∧ p < 16) (hc : Cl n P c (rdSet f p)) :
    Calls Try.prog 64 #[.pointer (some ⟨x, 0, none⟩), .int .i64 c, .int .i64 p] w fun e w' => e = .returned (.int .i64 (g p)) ∧ ArP L w' a ws n (m + 2) P ∧ Keeps L w w' := by
  have hwl := h.wsl
  have hnl := h.tsl
  have q0 := hx.2.cell 0
  have q1 := hx.2.cell 1
  have hxl := hx.1
  have HC := Lib.hid hc
  have HA := Lib.hid h
  obtain ⟨hf0, hf1, hr⟩ := hr
  obtain ⟨hg1, hg2⟩ := hr p h1.1 h1.2
  have hc8 : 0 ≤ c ∧ c < 8 := by omega
  have hf8 : 0 ≤ f ∧ f ≤ 65536 := by omega
  have hin : 0 ≤ f + p / 4 ∧ f + p / 4 < ws.length := by omega
  have hin2 : 0 ≤ f + 4 + p ∧ f + 4 + p < ws.length := by omega
  clear hx h hc hr
  generalize hv : rd ws (f + p / 4) = v at *
  have HV := Lib.hid hv
  have HG := Lib.hid hg1
  clear hv hg1
  by_cases hv0 : v = 0
  · have hgz := hg2 hv0
    subst hv0
    rw [hgz]
    clear hg2 hgz HG
    go_enter Try.func64, Try.ntmps64
    go_wp2
    go_region_held3 (fun w' => w'.cell? ⟨x, 0, none⟩ = some (.pointer (some ⟨a, 0, none⟩)) ∧ w'.cell? ⟨x, 1, none⟩ = some (.int .i64 f)) (first | exact ⟨q0, q1⟩ | exact ⟨hK9.cellOf hxl q0, hK9.cellOf hxl q1⟩)
        ((first
          | (go_at_call 62; refine (node_calls (by exact q1) p hf8 h1).mono ?_; rintro e w' ⟨rfl, rfl⟩)
          | (go_at_call 24; refine (load_p (r := 0) HA.out.drew (by omega) h0 hin HV.out HC.out (.inl rfl)).mono ?_; rintro e w4 ⟨rfl, hA4, hK9⟩)))
    go_wp2
    go_ret
    exact ⟨rfl, hA4.mono (by omega), hK9.undrew⟩
  · have hv1 : (v == 0) = false := by simpa using hv0
    clear hg2
    go_enter Try.func64, Try.ntmps64
    go_wp2
    go_region_held3 (fun w' => w'.cell? ⟨x, 0, none⟩ = some (.pointer (some ⟨a, 0, none⟩)) ∧ w'.cell? ⟨x, 1, none⟩ = some (.int .i64 f)) (first | exact ⟨q0, q1⟩ | exact ⟨hK9.cellOf hxl q0, hK9.cellOf hxl q1⟩)
        ((first
          | (go_at_call 62; refine (node_calls (by exact q1) p hf8 h1).mono ?_; rintro e w' ⟨rfl, rfl⟩)
          | (go_at_call 24; refine (load_p (r := v) HA.out.drew (by omega) h0 hin HV.out HC.out (.inl rfl)).mono ?_; rintro e w4 ⟨rfl, hA4, hK9⟩)))
    go_wp2
    have q2 := hK9.cellOf hxl q0
    have q3 := hK9.cellOf hxl q1
    clear q0 q1
    go_region_held3 (fun w' => w'.cell? ⟨x, 0, none⟩ = some (.pointer (some ⟨a, 0, none⟩)) ∧ w'.cell? ⟨x, 1, none⟩ = some (.int .i64 f)) (first | exact ⟨q2, q3⟩ | exact ⟨hK8.cellOf hxl q2, hK8.cellOf hxl q3⟩)
        ((first
          | (go_at_call 63; refine (slot_calls (by exact q3) p hf8 h1).mono ?_; rintro e w' ⟨rfl, rfl⟩)
          | (go_at_call 24; refine (load_p (r := g p) hA4.drew (by omega) h0 hin2 HG.out HC.out (.inr rfl)).mono ?_; rintro e w5 ⟨rfl, hA5, hK8⟩)))
    go_wp2
    go_ret
    exact ⟨rfl, hA5, hK9.undrew.trans hK8.undrew⟩

theorem may_ok (hx : RadAt L w x a f) (h : ArP L w a ws n m P) (c p l : Int) (h0 : 0 ≤ c ∧ c < n) (h1 : 0 ≤ p ∧ p < l) :
    Calls Try.prog 61 #[.pointer (some ⟨x, 0, none⟩), .int .i64 c, .int .i64 p, .int .i64 l] w fun e w' => e = .returned (.int .i64 0) ∧ w = w' := by
  have := may_calls hx h c p l
  rw [show mayErr n c p l = 0 by unfold mayErr; rw [if_neg (by omega), if_neg (by omega)]] at this
  exact this
theorem may_core (hx : RadAt L w x a f) (h : ArP L w a ws n m P) (c p l : Int) (h0 : c < 0 ∨ (n : Int) ≤ c) :
    Calls Try.prog 61 #[.pointer (some ⟨x, 0, none⟩), .int .i64 c, .int .i64 p, .int .i64 l] w fun e w' => e = .returned (.int .i64 701) ∧ w = w' := by
  have := may_calls hx h c p l
  rw [show mayErr n c p l = 701 by unfold mayErr; rw [if_pos (by omega)]] at this
  exact this
theorem may_page (hx : RadAt L w x a f) (h : ArP L w a ws n m P) (c p l : Int) (h0 : 0 ≤ c ∧ c < n) (h1 : p < 0 ∨ l ≤ p) :
    Calls Try.prog 61 #[.pointer (some ⟨x, 0, none⟩), .int .i64 c, .int .i64 p, .int .i64 l] w fun e w' => e = .returned (.int .i64 700) ∧ w = w' := by
  have := may_calls hx h c p l
  rw [show mayErr n c p l = 700 by unfold mayErr; rw [if_neg (by omega), if_pos (by omega)]] at this
  exact this

theorem rGet_ok (hx : RadAt L w x a f) (h : ArP L w a ws n m P) (hm : m ≤ 1099511627770) (hr : Rx ws f g) (c p : Int) (h0 : 0 ≤ c ∧ c < n) (h1 : 0 ≤ p ∧ p < 16) (hc : Cl n P c (rdSet f p)) :
    Calls Try.prog 38 #[.pointer (some ⟨x, 0, none⟩), .int .i64 c, .int .i64 p] w fun e w' => e = .returned (.tuple #[.int .i64 (g p), .int .i64 0]) ∧ ArP L w' a ws n (m + 2) P ∧ Keeps L w w' := by
  have hmy := Lib.hid (may_ok hx h c p 16 h0 h1)
  have hge := Lib.hid (rget_calls hx h hm hr c p h0 h1 hc)
  clear hx h hr hc
  go_enter Try.func38, Try.ntmps38
  go_wp2_with (first
    | (go_at_call 61; refine hmy.out.mono ?_; rintro e w' ⟨rfl, rfl⟩)
    | (go_at_call 64; refine hge.out.mono ?_; rintro e w4 ⟨rfl, hA4, hK4⟩))
  go_ret2
  exact ⟨rfl, hA4, hK4⟩
theorem rGet_err {k : Int} (hk : (k != 0) = true) (c p : Int) (hmy : Calls Try.prog 61 #[.pointer (some ⟨x, 0, none⟩), .int .i64 c, .int .i64 p, .int .i64 16] w fun e w' => e = .returned (.int .i64 k) ∧ w = w') :
    Calls Try.prog 38 #[.pointer (some ⟨x, 0, none⟩), .int .i64 c, .int .i64 p] w fun e w' => e = .returned (.tuple #[.int .i64 0, .int .i64 k]) ∧ w = w' := by
  have hmy := Lib.hid hmy
  go_enter Try.func38, Try.ntmps38
  go_wp2_with (go_at_call 61; refine hmy.out.mono ?_; rintro e w' ⟨rfl, rfl⟩)
  go_ret2
  exact ⟨rfl, rfl⟩

/-- A function with another value at one place. -/
def upd (g : Int → Int) (p v : Int) : Int → Int := fun q => if q = p then v else g q
theorem Rx.set {ws1 : List Int} (hr : Rx ws f g) {p v : Int} (h1 : 0 ≤ p ∧ p < 16) (hl : ws1.length = ws.length) (hroot : rd ws1 (f + p / 4) ≠ 0) (hrest : ∀ i, f ≤ i → i ≠ f + p / 4 → rd ws1 i = rd ws i) : Rx (wr ws1 (f + 4 + p) v) f (upd g p v) := by
  obtain ⟨hf0, hf1, hr⟩ := hr
  refine ⟨hf0, by simp; omega, fun q q0 q1 => ⟨?_, ?_⟩⟩
  · rw [rd_wr ⟨by omega, by omega⟩ (by omega)]
    unfold upd
    by_cases e : q = p
    · rw [if_pos (by omega), if_pos e]
    · rw [if_neg (by omega), if_neg e, hrest _ (by omega) (by omega)]
      exact (hr q q0 q1).1
  · rw [rd_wr ⟨by omega, by omega⟩ (by omega), if_neg (by omega)]
    unfold upd
    intro hz
    by_cases e : q = p
    · subst e; exact absurd hz hroot
    · rw [if_neg e]
      by_cases e4 : q / 4 = p / 4
      · rw [e4] at hz; exact absurd hz hroot
      · rw [hrest _ (by omega) (by omega)] at hz
        exact (hr q q0 q1).2 hz

/-- What setting a page touches. -/
def wtSet (f p : Int) (y : Acc) : Prop := y = (f + p / 4, false) ∨ y = (f + p / 4, true) ∨ y = (f + 4 + p, true)

theorem rSet_ok (hx : RadAt L w x a f) (h : ArP L w a ws n m P) (hm : m ≤ 1099511627770) (hr : Rx ws f g) (c p v : Int) (h0 : 0 ≤ c ∧ c < n) (h1 : 0 ≤ p ∧ p < 16) (hv : 0 ≤ v) (hc : Cl n P c (wtSet f p)) :
    Calls Try.prog 37 #[.pointer (some ⟨x, 0, none⟩), .int .i64 c, .int .i64 p, .int .i64 v] w fun e w' => e = .returned (.int .i64 0) ∧ ∃ ws', ws'.length = ws.length ∧ Rx ws' f (upd g p v) ∧ ArP L w' a ws' n (m + 3) P ∧ Keeps L w w' := by
  have hmy := Lib.hid (may_ok hx h c p 16 h0 h1)
  have hco := Lib.hid (cores_p h)
  have hwl := h.wsl
  have hnl := h.tsl
  have q0 := hx.2.cell 0
  have q1 := hx.2.cell 1
  have hxl := hx.1
  have HC := Lib.hid hc
  have HA := Lib.hid h
  have HR := Lib.hid hr
  obtain ⟨hf0, hf1, hr⟩ := hr
  have hc8 : 0 ≤ c ∧ c < 8 := by omega
  have hf8 : 0 ≤ f ∧ f ≤ 65536 := by omega
  have hin : 0 ≤ f + p / 4 ∧ f + p / 4 < ws.length := by omega
  have hin2 : 0 ≤ f + 4 + p ∧ f + 4 + p < ws.length := by omega
  have hv' : ¬ v < 0 := by omega
  clear hx h hc hr
  by_cases hz : rd ws (f + p / 4) = 0
  · have HV := Lib.hid hz
    clear hz
    go_enter Try.func37, Try.ntmps37
    go_wp2_with (first
      | (go_at_call 51; refine hco.out.mono ?_; rintro e w' ⟨rfl, rfl⟩)
      | (go_at_call 61; refine hmy.out.mono ?_; rintro e w' ⟨rfl, rfl⟩))
    go_region_held3 (fun w' => w'.cell? ⟨x, 0, none⟩ = some (.pointer (some ⟨a, 0, none⟩)) ∧ w'.cell? ⟨x, 1, none⟩ = some (.int .i64 f)) (first | exact ⟨q0, q1⟩ | exact ⟨hK9.cellOf hxl q0, hK9.cellOf hxl q1⟩)
        ((first
          | (go_at_call 62; refine (node_calls (by exact q1) p hf8 h1).mono ?_; rintro e w' ⟨rfl, rfl⟩)
          | (go_at_call 24; refine (load_p (r := 0) HA.out.drew (by omega) h0 hin HV.out HC.out (.inl rfl)).mono ?_; rintro e w4 ⟨rfl, hA4, hK9⟩)))
    go_wp2
    have q2 := hK9.cellOf hxl q0
    have q3 := hK9.cellOf hxl q1
    clear q0 q1
    go_region_held3 (fun w' => w'.cell? ⟨x, 0, none⟩ = some (.pointer (some ⟨a, 0, none⟩)) ∧ w'.cell? ⟨x, 1, none⟩ = some (.int .i64 f)) (first | exact ⟨q2, q3⟩ | exact ⟨hK8.cellOf hxl q2, hK8.cellOf hxl q3⟩)
        ((first
          | (go_at_call 62; refine (node_calls (by exact q3) p hf8 h1).mono ?_; rintro e w' ⟨rfl, rfl⟩)
          | (go_at_call 50; refine (casy_p hA4.drew (by omega) h0 hin HV.out rfl HC.out (.inr (.inl rfl))).mono ?_; rintro e w5 ⟨rfl, hA5, hK8⟩)))
    go_wp2
    have q4 := hK8.cellOf hxl q2
    have q5 := hK8.cellOf hxl q3
    clear q2 q3
    go_region_held3 (fun w' => w'.cell? ⟨x, 0, none⟩ = some (.pointer (some ⟨a, 0, none⟩)) ∧ w'.cell? ⟨x, 1, none⟩ = some (.int .i64 f)) (first | exact ⟨q4, q5⟩ | exact ⟨hK7.cellOf hxl q4, hK7.cellOf hxl q5⟩)
        ((first
          | (go_at_call 63; refine (slot_calls (by exact q5) p hf8 h1).mono ?_; rintro e w' ⟨rfl, rfl⟩)
          | (go_at_call 49; refine (store_p hA5.drew (by omega) h0 (by simpa using hin2) rfl HC.out (.inr (.inr rfl))).mono ?_; rintro e w6 ⟨rfl, hA6, hK7⟩)))
    go_wp2
    go_ret
    refine ⟨rfl, _, by simp, HR.out.set h1 (by simp) ?_ ?_, hA6, hK9.undrew.trans (hK8.undrew.trans hK7.undrew)⟩
    · rw [rd_wr hin hin.1, if_pos rfl]; omega
    · intro i hi hne
      rw [rd_wr hin (by omega), if_neg hne]
  · generalize hrr : rd ws (f + p / 4) = r at *
    have HV := Lib.hid hrr
    have hv1 : (r == 0) = false := by simpa using hz
    clear hrr
    go_enter Try.func37, Try.ntmps37
    go_wp2_with (first
      | (go_at_call 51; refine hco.out.mono ?_; rintro e w' ⟨rfl, rfl⟩)
      | (go_at_call 61; refine hmy.out.mono ?_; rintro e w' ⟨rfl, rfl⟩))
    go_region_held3 (fun w' => w'.cell? ⟨x, 0, none⟩ = some (.pointer (some ⟨a, 0, none⟩)) ∧ w'.cell? ⟨x, 1, none⟩ = some (.int .i64 f)) (first | exact ⟨q0, q1⟩ | exact ⟨hK9.cellOf hxl q0, hK9.cellOf hxl q1⟩)
        ((first
          | (go_at_call 62; refine (node_calls (by exact q1) p hf8 h1).mono ?_; rintro e w' ⟨rfl, rfl⟩)
          | (go_at_call 24; refine (load_p (r := r) HA.out.drew (by omega) h0 hin HV.out HC.out (.inl rfl)).mono ?_; rintro e w4 ⟨rfl, hA4, hK9⟩)))
    go_wp2
    have q4 := hK9.cellOf hxl q0
    have q5 := hK9.cellOf hxl q1
    clear q0 q1
    go_region_held3 (fun w' => w'.cell? ⟨x, 0, none⟩ = some (.pointer (some ⟨a, 0, none⟩)) ∧ w'.cell? ⟨x, 1, none⟩ = some (.int .i64 f)) (first | exact ⟨q4, q5⟩ | exact ⟨hK7.cellOf hxl q4, hK7.cellOf hxl q5⟩)
        ((first
          | (go_at_call 63; refine (slot_calls (by exact q5) p hf8 h1).mono ?_; rintro e w' ⟨rfl, rfl⟩)
          | (go_at_call 49; refine (store_p hA4.drew (by omega) h0 hin2 rfl HC.out (.inr (.inr rfl))).mono ?_; rintro e w6 ⟨rfl, hA6, hK7⟩)))
    go_wp2
    go_ret
    refine ⟨rfl, _, by simp, HR.out.set h1 rfl (by rw [HV.out]; exact hz) (fun i _ _ => rfl), hA6.mono (by omega), hK9.undrew.trans hK7.undrew⟩

theorem rad_new_ok (h : ArP L w a ws n m P) (f k : Int) (hf : 0 ≤ f) (hk : 128 ≤ k) (hl : f + k ≤ ws.length) (hz : ∀ i, f ≤ i → i < f + 20 → rd ws i = 0) :
    Calls Try.prog 36 #[.pointer (some ⟨a, 0, none⟩), .int .i64 f, .int .i64 k] w fun e w' => ∃ x, e = .returned (.tuple #[.pointer (some ⟨x, 0, none⟩), .int .i64 0]) ∧
      RadAt (ins L x) w' x a f ∧ ¬ L x ∧ w.heap.size ≤ x ∧ ArP (ins L x) w' a ws n m P ∧ Keeps L w w' := by
  have hwl := h.wsl
  have hnl := h.tsl
  have hfi := Lib.hid (fits_yes_p h f k hf (by omega) (by omega))
  have HZ := Lib.hid hz
  have HA := Lib.hid h
  clear h hz
  have hf' : ¬ f < 0 := by omega
  have hk' : ¬ k < 128 := by omega
  go_enter Try.func36, Try.ntmps36
  go_wp2_with (go_at_call 55; refine hfi.out.mono ?_; rintro e w' ⟨rfl, rfl⟩)
  go_loopw [26] (fun i wr => ∃ k : Nat, i = .int .i64 k ∧ k ≤ 20 ∧ ArP L wr a ws n m P ∧ Keeps L w wr) (fun i _ => 20 - (intOf i).toNat)
  case atStart => exact ⟨0, rfl, Nat.zero_le _, HA.out, Keeps.refl _ _⟩
  case round =>
    obtain ⟨j, rfl, hj, hA, hK⟩ := hrel
    by_cases hlt : j < 20
    · have hlt' : (j : Int) < 20 := by omega
      go_wp2_with (go_at_call 56; refine (poke_p (ws' := ws) hA ⟨by omega, by omega⟩ (wr_rd (HZ.out _ (by omega) (by omega)) ⟨by omega, by omega⟩)).mono ?_; rintro e w4 ⟨rfl, hA4, hK4⟩)
      go_roundw
      case rel => exact ⟨j + 1, by go_num, by omega, hA4, hK.trans hK4⟩
      case measure => simp [intOf]; omega
    · have hlt' : ¬ (j : Int) < 20 := by omega
      go_wp2
      go_ret2
      exact ⟨_, rfl, ⟨ins.new _ _, Blk.new _ _ _⟩, hA.bd.new, hK.size, hA.allocIns _, hK.alloc hA.bd _⟩

theorem Rx.zero (hf : 0 ≤ f) (hl : f + 20 ≤ ws.length) (hz : ∀ i, rd ws i = 0) : Rx ws f fun _ => 0 := ⟨hf, hl, fun _ _ _ => ⟨hz _, fun _ => rfl⟩⟩
theorem Rx.congr {g' : Int → Int} (h : Rx ws f g) (hg : ∀ p, 0 ≤ p → p < 16 → g' p = g p) : Rx ws f g' :=
  ⟨h.1, h.2.1, fun p h0 h1 => by rw [hg p h0 h1]; exact h.2.2 p h0 h1⟩
/-- A page's number is turned where it is not 0. -/
theorem Rx.poke (hr : Rx ws f g) {p : Int} (h1 : 0 ≤ p ∧ p < 16) (hne : g p ≠ 0) : Rx (wr ws (f + 4 + p) 0) f (upd g p 0) := by
  refine hr.set h1 rfl (fun hz => hne ((hr.2.2 p h1.1 h1.2).2 hz)) (fun _ _ _ => rfl)

/-- What a cut touches. -/
def cutSet (f : Int) (y : Acc) : Prop := ∃ p, 0 ≤ p ∧ p < 16 ∧ (rdSet f p y ∨ y = (f + 4 + p, true))
def cutf (g : Int → Int) (p k : Int) : Int → Int := fun q => if p ≤ q ∧ q < k then 0 else g q

theorem rCut_ok (hx : RadAt L w x a f) (h : ArP L w a ws n m P) (hm : m ≤ 1099511627000) (hr : Rx ws f g) (hgr : ∀ p, 0 ≤ p → p < 16 → 0 ≤ g p) (c p : Int) (h0 : 0 ≤ c ∧ c < n) (h1 : 0 ≤ p ∧ p ≤ 16) (hc : Cl n P c (cutSet f)) :
    Calls Try.prog 39 #[.pointer (some ⟨x, 0, none⟩), .int .i64 c, .int .i64 p] w fun e w' => e = .returned (.int .i64 0) ∧ ∃ ws', ws'.length = ws.length ∧ Rx ws' f (cutf g p 16) ∧ ArP L w' a ws' n (m + 48) P ∧ Keeps L w w' := by
  have hmy := Lib.hid (may_ok hx h c p 17 h0 (by omega))
  have hwl := h.wsl
  have hnl := h.tsl
  have HX := Lib.hid hx
  have HC := Lib.hid hc
  have HA := Lib.hid h
  have HR := Lib.hid hr
  have HGR := Lib.hid hgr
  have hf0 := hr.1
  have hf1 := hr.2.1
  have hc8 : 0 ≤ c ∧ c < 8 := by omega
  have hf8 : 0 ≤ f ∧ f ≤ 65536 := by omega
  clear hx h hc hr hgr
  go_enter Try.func39, Try.ntmps39
  go_wp2_with (go_at_call 61; refine hmy.out.mono ?_; rintro e w' ⟨rfl, rfl⟩)
  go_loopw [8] (fun i wr => ∃ (k : Nat) (ws1 : List Int), i = .int .i64 k ∧ p ≤ k ∧ k ≤ 16 ∧ ws1.length = ws.length ∧ RadAt L wr x a f ∧ Rx ws1 f (cutf g p k) ∧ ArP L wr a ws1 n (m + 3 * k) P ∧ Keeps L w wr) (fun i _ => 16 - (intOf i).toNat)
  case atStart => exact ⟨p.toNat, ws, by congr 1; omega, by omega, by omega, rfl, HX.out, HR.out.congr (fun q _ _ => by unfold cutf; rw [if_neg (by omega)]), HA.out.mono (by omega), Keeps.refl _ _⟩
  case round =>
    obtain ⟨k, ws1, rfl, hpk, hk, hwl1, hx, hr, hA, hK⟩ := hrel
    have q0 := hx.2.cell 0
    have q1 := hx.2.cell 1
    have hxl := hx.1
    have HX2 := Lib.hid hx
    have HR2 := Lib.hid hr
    by_cases hlt : k < 16
    · have hlt' : (k : Int) < 16 := by omega
      have hin2 : 0 ≤ f + 4 + (k : Int) ∧ f + 4 + (k : Int) < ws1.length := by omega
      have hkk : 0 ≤ (k : Int) ∧ (k : Int) < 16 := by omega
      have hge := Lib.hid (rget_calls hx hA (by omega) hr c k h0 hkk (HC.out.sub fun y hy => ⟨k, hkk.1, hkk.2, .inl hy⟩))
      have hck : cutf g p k k = g k := by unfold cutf; rw [if_neg (by omega)]
      rw [hck] at hge
      clear hx hr
      generalize hv : g (k : Int) = v at *
      have HV := Lib.hid hv
      have HCK := Lib.hid hck
      clear hv hck
      by_cases hv0 : v = 0
      · have hv1 : (v != 0) = false := by simpa using hv0
        go_wp2_with (go_at_call 64; refine hge.out.mono ?_; rintro e w4 ⟨rfl, hA4, hK4⟩)
        go_roundw
        case rel =>
          refine ⟨k + 1, ws1, by go_num, by omega, by omega, hwl1, HX2.out.keep hK4, HR2.out.congr (fun q _ _ => ?_), hA4.mono (by omega), hK.trans hK4⟩
          unfold cutf
          by_cases e : q = k
          · subst e
            rw [if_pos (by omega), if_neg (by omega), HV.out, hv0]
          · by_cases e2 : p ≤ q ∧ q < k
            · rw [if_pos (by omega), if_pos e2]
            · rw [if_neg (by omega), if_neg e2]
        case measure => simp [intOf]; omega
      · have hv1 : (v != 0) = true := by simpa using hv0
        go_wp2_with (go_at_call 64; refine hge.out.mono ?_; rintro e w4 ⟨rfl, hA4, hK4⟩)
        have q2 := hK4.cellOf hxl q0
        have q3 := hK4.cellOf hxl q1
        clear q0 q1
        go_region_held3 (fun w' => w'.cell? ⟨x, 0, none⟩ = some (.pointer (some ⟨a, 0, none⟩)) ∧ w'.cell? ⟨x, 1, none⟩ = some (.int .i64 f)) (first | exact ⟨q2, q3⟩ | exact ⟨hK8.cellOf hxl q2, hK8.cellOf hxl q3⟩)
          ((first
            | (go_at_call 63; refine (slot_calls (by exact q3) k hf8 hkk).mono ?_; rintro e w' ⟨rfl, rfl⟩)
            | (go_at_call 49; refine (store_p hA4.drew (by omega) h0 hin2 rfl HC.out ⟨k, hkk.1, hkk.2, .inr rfl⟩).mono ?_; rintro e w5 ⟨rfl, hA5, hK8⟩)))
        go_wp2
        go_roundw
        case rel =>
          refine ⟨k + 1, _, by go_num, by omega, by omega, by simpa using hwl1, HX2.out.keep (hK4.trans hK8.undrew), (HR2.out.poke hkk (by rw [HCK.out]; exact hv0)).congr (fun q _ _ => ?_), hA5.mono (by omega), hK.trans (hK4.trans hK8.undrew)⟩
          unfold cutf upd
          by_cases e : q = k
          · rw [if_pos (by omega), if_pos e]
          · rw [if_neg e]
            by_cases e2 : p ≤ q ∧ q < k
            · rw [if_pos (by omega)]
              exact (if_pos e2).symm
            · rw [if_neg (by omega)]
              exact (if_neg e2).symm
        case measure => simp [intOf]; omega
    · have hlt' : ¬ (k : Int) < 16 := by omega
      have h16 : k = 16 := by omega
      clear hx hr
      go_wp2
      go_ret
      subst h16
      exact ⟨rfl, ws1, hwl1, HR2.out, hA, hK⟩

/-- The pages that have a number, of the first k. -/
def pgs (g : Int → Int) : Nat → List Int
  | 0 => []
  | k + 1 => if g k = 0 then pgs g k else pgs g k ++ [(k : Int)]
theorem pgs_le (g : Int → Int) (k : Nat) : (pgs g k).length ≤ k := by
  induction k with
  | zero => exact Nat.le_refl _
  | succ k ih =>
    unfold pgs
    split
    · omega
    · simp; omega
theorem own_ge7 {w : World} {base : Nat} {e : TypeId} {size n g : Nat} {v : Value} {xs : List Value} (h : w.ownsRow base e size v n xs) (hg : v.ownBlock = some g) : base ≤ g := by
  rcases h.2 with ⟨rfl, _⟩ | ⟨g', cap, cur, rfl, hb, _, _⟩
  · simp [Value.ownBlock] at hg
  · have : g' = g := by simpa [Value.ownBlock] using hg
    omega
theorem info_int7 : (Try.prog.info? 3).map (fun i => (i.zero, i.size, i.bytes)) = some (some (.int .i64 0), 1, 8) := by kernel_rfl

set_option maxRecDepth 100000 in
theorem rPages_ok (hx : RadAt L w x a f) (h : ArP L w a ws n m P) (hm : m ≤ 1099511627000) (hr : Rx ws f g) (c : Int) (h0 : 0 ≤ c ∧ c < n) (hc : ∀ p, 0 ≤ p → p < 16 → Cl n P c (rdSet f p)) :
    Calls Try.prog 42 #[.pointer (some ⟨x, 0, none⟩), .int .i64 c] w fun e w' => ∃ v, e = .returned v ∧ w'.ownsRow w.heap.size 3 1 v (pgs g 16).length ((pgs g 16).map (Value.int .i64)) ∧
      ArP (lo L v) w' a ws n (m + 32) P ∧ Keeps L w w' := by
  have hmy := Lib.hid (may_ok hx h c 0 1 h0 (by omega))
  have hwl := h.wsl
  have hnl := h.tsl
  have HX := Lib.hid hx
  have HC := Lib.hid hc
  have HA := Lib.hid h
  have HR := Lib.hid hr
  have hc8 : 0 ≤ c ∧ c < 8 := by omega
  obtain ⟨di, hi, hz0, hz1, hz2⟩ := info_parts info_int7
  clear hx h hc hr
  go_enter Try.func42, Try.ntmps42
  go_wp2_with (go_at_call 61; refine hmy.out.mono ?_; rintro e w' ⟨rfl, rfl⟩)
  go_loopw [5, 11] (fun v i wr => ∃ k : Nat, i = .int .i64 k ∧ k ≤ 16 ∧ RadAt L wr x a f ∧ wr.ownsRow w.heap.size 3 1 v (pgs g k).length ((pgs g k).map (Value.int .i64)) ∧
    ArP (lo L v) wr a ws n (m + 2 * k) P ∧ Keeps L w wr) (fun _ i _ => 16 - (intOf i).toNat)
  case atStart => exact ⟨0, rfl, Nat.zero_le _, HX.out, World.ownsRow_nil _ _ _ _, by rw [lo_nil]; exact HA.out, Keeps.refl _ _⟩
  case round =>
    obtain ⟨k, rfl, hk, hx, hown, hA, hK⟩ := hrel
    have HX2 := Lib.hid hx
    have HO := Lib.hid hown
    have hxl := hx.1
    by_cases hlt : k < 16
    · have hlt' : (k : Int) < 16 := by omega
      have hkk : 0 ≤ (k : Int) ∧ (k : Int) < 16 := by omega
      have hge := Lib.hid (rget_calls (L := lo L u5) ⟨.inl hx.1, hx.2⟩ hA (by omega) HR.out c k h0 hkk (HC.out k hkk.1 hkk.2))
      clear hx hown
      have HD := Lib.hid (show pgs g (k + 1) = if g k = 0 then pgs g k else pgs g k ++ [(k : Int)] from rfl)
      have hlen : (pgs g k).length ≤ 15 := by have := pgs_le g k; omega
      generalize hv : g (k : Int) = v at *
      clear hv
      by_cases hv0 : v = 0
      · have hv1 : (v != 0) = false := by simpa using hv0
        have HD := Lib.hid (HD.out.trans (if_pos hv0))
        go_wp2_with (go_at_call 64; refine hge.out.mono ?_; rintro e w4 ⟨rfl, hA4, hK4⟩)
        go_roundw
        case rel =>
          refine ⟨k + 1, by go_num, by omega, HX2.out.keep (hK4.sub fun _ h => .inl h), ?_, hA4.mono (by omega), hK.trans (hK4.sub fun _ h => .inl h)⟩
          rw [HD.out]
          exact own_keep HO.out hK4
        case measure => simp [intOf]; omega
      · have hv1 : (v != 0) = true := by simpa using hv0
        have HD := Lib.hid (HD.out.trans (if_neg hv0))
        go_wp2_with (first
          | (go_at_call 64; refine hge.out.mono ?_; rintro e w4 ⟨rfl, hA4, hK4⟩; have HO4 := Lib.hid (own_keep HO.out hK4); have hK5 := Lib.hid (hK.trans (hK4.sub fun _ h => .inl h)); have HX4 := Lib.hid (HX2.out.keep (hK4.sub fun _ h => .inl h)); clear hK4 HO HX2 hK hge)
          | (at_builtin; refine wpList_append_lies _ rfl (.tmp 19) (.tmp 21) 22 rfl w.heap.size 3 di (.int .i64 0) 1 8 Try.underlying22 hi hz0 hz1 hz2 rfl (by omega) u5 _ _ rfl (HO4.out.alloc (Obj.cells #[.int .i64 k] 3)) ⟨w4.heap.size, 0, none⟩ 1 1 [.int .i64 k] rfl rfl (World.news_of_block (heap_alloc_new _ _)) (by intro u hu; simp at hu; subst hu; rfl) (by decide) (by simp only [maxLen]; omega) (by omega) (by have := hK5.out.size; simp; omega) _ rfl ?_; intro g2 cap w5 hown hgrow hat hlt2))
        go_roundw
        case rel =>
          have hKb : Keeps L (w4.alloc (Obj.cells #[.int .i64 k] 3)) w5 :=
            (Keeps.refl L _).grown hgrow ((hA4.bd.sub fun _ h => .inl h).alloc _) fun g hg hl => by
              have := own_ge7 HO4.out hg
              have := HA.out.bd g hl
              omega
          have hKa := (hK5.out.alloc (hA4.bd.sub fun _ h => .inl h) (Obj.cells #[.int .i64 k] 3)).trans hKb
          refine ⟨k + 1, by go_num, by omega, ⟨hxl, hKb.blk (Blk.alloc HX4.out.2 _) hxl⟩, ?_, ((hA4.lo_alloc _).grown hgrow ?_).mono (by omega), hKa⟩
          · rw [HD.out]
            simpa using hown
          · intro g' hg'
            have : g2 = g' := by simpa [Value.ownBlock] using hg'
            subst this
            exact ⟨hat.imp id (fun h => Nat.le_of_eq h.symm), hlt2⟩
        case measure => simp [intOf]; omega
    · have hlt' : ¬ (k : Int) < 16 := by omega
      have h16 : k = 16 := by omega
      clear hx hown
      go_wp2
      go_ret
      subst h16
      exact ⟨_, rfl, HO.out, hA, hK⟩
end
end Go.Proofs.Ytacjpchcaknacaa
