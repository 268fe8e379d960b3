
/- radix: looking, with what it leaves in the trace; setting where the node is there. -/
import Derived.Test.YtacjpchcaknacaaRadix
namespace Go.Proofs.Ytacjpchcaknacaa
open Go.RowKit
set_option maxHeartbeats 400000

section
variable {L : Nat → Prop} {w : World} {a x : Nat} {ws : List Int} {n m : Nat} {P P' : List (List Acc) → Prop} {f : Int} {g : Int → Int}
theorem load_q (h : ArP L w a ws n m P) (hm : m ≤ 1099511627776) {c i : Int} (h0 : 0 ≤ c ∧ c < n) (h1 : 0 ≤ i ∧ i < ws.length) {r : Int} (hr : rd ws i = r) (hc : ∀ ts, ts.length = n → P ts → P' (noted ts c (i, false))) :
    Calls Try.prog 24 #[.pointer (some ⟨a, 0, none⟩), .int .i64 c, .int .i64 i] w fun e w' => e = .returned (.tuple #[.int .i64 r, .int .i64 0]) ∧ ArP L w' a ws n (m + 1) P' ∧ Keeps L w w' := by
  obtain ⟨ts, g1, g2, g3, g4⟩ := h
  subst g1
  refine (load_to g4 (Room.of g2 hm) h0 h1 hr rfl).mono ?_
  rintro e w' ⟨rfl, q1, q2⟩
  exact ⟨rfl, ⟨_, by simp, g2.noted _, hc _ rfl g3, q1⟩, q2⟩

theorem rget_calls2 (hx : RadAt L w x a f) (h : ArP L w a ws n m P) (hm : m ≤ 1099511627770) (hr : Rx ws f g) (c p : Int) (h0 : 0 ≤ c ∧ c < n) (h1 : 0 ≤ p ∧ p < 16) (hc1 : ∀ ts y, ts.length = n → P ts → rdSet f p y → P' (noted ts c y)) (hc : Cl n P' c (rdSet f p)) :
    Calls Try.prog 64 #[.pointer (some ⟨x, 0, none⟩), .int .i64 c, .int .i64 p] w fun e w' => e = .returned (.int .i64 (g p)) ∧ ArP L w' a ws n (m + 2) P' ∧ Keeps L w w' := by
  have hwl := h.wsl
  have hnl := h.tsl
  have q0 := hx.2.cell 0
  have q1 := hx.2.cell 1
  have hxl := hx.1
  have HC := Lib.hid hc
  have HC1 := Lib.hid hc1
  have HA := Lib.hid h
  obtain ⟨hf0, hf1, hr⟩ := hr
  obtain ⟨hg1, hg2⟩ := hr p h1.1 h1.2
  have hc8 : 0 ≤ c ∧ c < 8 := by omega
  have hf8 : 0 ≤ f ∧ f ≤ 65536 := by omega
  have hin : 0 ≤ f + p / 4 ∧ f + p / 4 < ws.length := by omega
  have hin2 : 0 ≤ f + 4 + p ∧ f + 4 + p < ws.length := by omega
  clear hx h hc hc1 hr
  generalize hv : rd ws (f + p / 4) = v at *
  have HV := Lib.hid hv
  have HG := Lib.hid hg1
  clear hv hg1
  by_cases hv0 : v = 0
  · have hgz := hg2 hv0
    subst hv0
    rw [hgz]
    clear hg2 hgz HG
    go_enter Try.func64, Try.ntmps64
    go_wp2
    go_region_held3 (fun w' => w'.cell? ⟨x, 0, none⟩ = some (.pointer (some ⟨a, 0, none⟩)) ∧ w'.cell? ⟨x, 1, none⟩ = some (.int .i64 f)) (first | exact ⟨q0, q1⟩ | exact ⟨hK9.cellOf hxl q0, hK9.cellOf hxl q1⟩)
        ((first
          | (go_at_call 62; refine (node_calls (by exact q1) p hf8 h1).mono ?_; rintro e w' ⟨rfl, rfl⟩)
          | (go_at_call 24; refine (load_q (P' := P') (r := 0) HA.out.drew (by omega) h0 hin HV.out (fun ts hl hp => HC1.out ts _ hl hp (.inl rfl))).mono ?_; rintro e w4 ⟨rfl, hA4, hK9⟩)))
    go_wp2
    go_ret
    exact ⟨rfl, hA4.mono (by omega), hK9.undrew⟩
  · have hv1 : (v == 0) = false := by simpa using hv0
    clear hg2
    go_enter Try.func64, Try.ntmps64
    go_wp2
    go_region_held3 (fun w' => w'.cell? ⟨x, 0, none⟩ = some (.pointer (some ⟨a, 0, none⟩)) ∧ w'.cell? ⟨x, 1, none⟩ = some (.int .i64 f)) (first | exact ⟨q0, q1⟩ | exact ⟨hK9.cellOf hxl q0, hK9.cellOf hxl q1⟩)
        ((first
          | (go_at_call 62; refine (node_calls (by exact q1) p hf8 h1).mono ?_; rintro e w' ⟨rfl, rfl⟩)
          | (go_at_call 24; refine (load_q (P' := P') (r := v) HA.out.drew (by omega) h0 hin HV.out (fun ts hl hp => HC1.out ts _ hl hp (.inl rfl))).mono ?_; rintro e w4 ⟨rfl, hA4, hK9⟩)))
    go_wp2
    have q2 := hK9.cellOf hxl q0
    have q3 := hK9.cellOf hxl q1
    clear q0 q1
    go_region_held3 (fun w' => w'.cell? ⟨x, 0, none⟩ = some (.pointer (some ⟨a, 0, none⟩)) ∧ w'.cell? ⟨x, 1, none⟩ = some (.int .i64 f)) (first | exact ⟨q2, q3⟩ | exact ⟨hK8.cellOf hxl q2, hK8.cellOf hxl q3⟩)
        ((first
          | (go_at_call 63; refine (slot_calls (by exact q3) p hf8 h1).mono ?_; rintro e w' ⟨rfl, rfl⟩)
          | (go_at_call 24; refine (load_p (r := g p) hA4.drew (by omega) h0 hin2 HG.out HC.out (.inr rfl)).mono ?_; rintro e w5 ⟨rfl, hA5, hK8⟩)))
    go_wp2
    go_ret
    exact ⟨rfl, hA5, hK9.undrew.trans hK8.undrew⟩

theorem rGet_ok2 (hx : RadAt L w x a f) (h : ArP L w a ws n m P) (hm : m ≤ 1099511627770) (hr : Rx ws f g) (c p : Int) (h0 : 0 ≤ c ∧ c < n) (h1 : 0 ≤ p ∧ p < 16) (hc1 : ∀ ts y, ts.length = n → P ts → rdSet f p y → P' (noted ts c y)) (hc : Cl n P' c (rdSet f p)) :
    Calls Try.prog 38 #[.pointer (some ⟨x, 0, none⟩), .int .i64 c, .int .i64 p] w fun e w' => e = .returned (.tuple #[.int .i64 (g p), .int .i64 0]) ∧ ArP L w' a ws n (m + 2) P' ∧ Keeps L w w' := by
  have hmy := Lib.hid (may_ok hx h c p 16 h0 h1)
  have hge := Lib.hid (rget_calls2 hx h hm hr c p h0 h1 hc1 hc)
  clear hx h hr hc hc1
  go_enter Try.func38, Try.ntmps38
  go_wp2_with (first
    | (go_at_call 61; refine hmy.out.mono ?_; rintro e w' ⟨rfl, rfl⟩)
    | (go_at_call 64; refine hge.out.mono ?_; rintro e w4 ⟨rfl, hA4, hK4⟩))
  go_ret2
  exact ⟨rfl, hA4, hK4⟩
/-- What setting a page touches where its node is there. -/
def stSet (f p : Int) (y : Acc) : Prop := y = (f + p / 4, false) ∨ y = (f + 4 + p, true)

theorem rSet_root (hx : RadAt L w x a f) (h : ArP L w a ws n m P) (hm : m ≤ 1099511627770) (hr : Rx ws f g) (c p v : Int) (h0 : 0 ≤ c ∧ c < n) (h1 : 0 ≤ p ∧ p < 16) (hv : 0 ≤ v) (hc : Cl n P c (stSet f p)) (hz : rd ws (f + p / 4) ≠ 0) :
    Calls Try.prog 37 #[.pointer (some ⟨x, 0, none⟩), .int .i64 c, .int .i64 p, .int .i64 v] w fun e w' => e = .returned (.int .i64 0) ∧ Rx (wr ws (f + 4 + p) v) f (upd g p v) ∧ ArP L w' a (wr ws (f + 4 + p) v) n (m + 3) P ∧ Keeps L w w' := by
  have hmy := Lib.hid (may_ok hx h c p 16 h0 h1)
  have hco := Lib.hid (cores_p h)
  have hwl := h.wsl
  have hnl := h.tsl
  have q0 := hx.2.cell 0
  have q1 := hx.2.cell 1
  have hxl := hx.1
  have HC := Lib.hid hc
  have HA := Lib.hid h
  have HR := Lib.hid hr
  obtain ⟨hf0, hf1, hr⟩ := hr
  have hc8 : 0 ≤ c ∧ c < 8 := by omega
  have hf8 : 0 ≤ f ∧ f ≤ 65536 := by omega
  have hin : 0 ≤ f + p / 4 ∧ f + p / 4 < ws.length := by omega
  have hin2 : 0 ≤ f + 4 + p ∧ f + 4 + p < ws.length := by omega
  have hv' : ¬ v < 0 := by omega
  clear hx h hc hr
  generalize hrr : rd ws (f + p / 4) = r at *
  have HV := Lib.hid hrr
  have hv1 : (r == 0) = false := by simpa using hz
  clear hrr
  go_enter Try.func37, Try.ntmps37
  go_wp2_with (first
    | (go_at_call 51; refine hco.out.mono ?_; rintro e w' ⟨rfl, rfl⟩)
    | (go_at_call 61; refine hmy.out.mono ?_; rintro e w' ⟨rfl, rfl⟩))
  go_region_held3 (fun w' => w'.cell? ⟨x, 0, none⟩ = some (.pointer (some ⟨a, 0, none⟩)) ∧ w'.cell? ⟨x, 1, none⟩ = some (.int .i64 f)) (first | exact ⟨q0, q1⟩ | exact ⟨hK9.cellOf hxl q0, hK9.cellOf hxl q1⟩)
      ((first
        | (go_at_call 62; refine (node_calls (by exact q1) p hf8 h1).mono ?_; rintro e w' ⟨rfl, rfl⟩)
        | (go_at_call 24; refine (load_p (r := r) HA.out.drew (by omega) h0 hin HV.out HC.out (.inl rfl)).mono ?_; rintro e w4 ⟨rfl, hA4, hK9⟩)))
  go_wp2
  have q4 := hK9.cellOf hxl q0
  have q5 := hK9.cellOf hxl q1
  clear q0 q1
  go_region_held3 (fun w' => w'.cell? ⟨x, 0, none⟩ = some (.pointer (some ⟨a, 0, none⟩)) ∧ w'.cell? ⟨x, 1, none⟩ = some (.int .i64 f)) (first | exact ⟨q4, q5⟩ | exact ⟨hK7.cellOf hxl q4, hK7.cellOf hxl q5⟩)
      ((first
        | (go_at_call 63; refine (slot_calls (by exact q5) p hf8 h1).mono ?_; rintro e w' ⟨rfl, rfl⟩)
        | (go_at_call 49; refine (store_p hA4.drew (by omega) h0 hin2 rfl HC.out (.inr rfl)).mono ?_; rintro e w6 ⟨rfl, hA6, hK7⟩)))
  go_wp2
  go_ret
  refine ⟨rfl, HR.out.set h1 rfl (by rw [HV.out]; exact hz) (fun i _ _ => rfl), hA6.mono (by omega), hK9.undrew.trans hK7.undrew⟩
end
end Go.Proofs.Ytacjpchcaknacaa
