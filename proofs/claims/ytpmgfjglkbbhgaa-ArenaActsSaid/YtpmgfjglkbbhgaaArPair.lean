
/- The arena and the document's arena do the same: one call of each. -/
import Derived.Test.YtpmgfjglkbbhgaaRefOps
import Derived.Test.YtpmgfjglkbbhgaaOut
namespace Go.Proofs.Ytpmgfjglkbbhgaa
open Go.RowKit
set_option maxHeartbeats 1000000

section
variable {L : Nat → Prop} {w : World} {a bw bt : Nat} {vs : List Value} {ws : List Int} {ts : List (List Acc)}

theorem rclear_ok (h : RfAt L w a ws ts) (c : Int) (h0 : 0 ≤ c) (h1 : c < ts.length) :
    Calls Try.prog 33 #[.pointer (some ⟨a, 0, none⟩), .int .i64 c] w fun e w' => e = .returned (.int .i64 0) ∧ RfAt L w' a ws (ts.set c.toNat []) ∧ Keeps L w w' := by
  obtain ⟨bw, bt, vs, h⟩ := h
  have c1 := h.c1
  have ct := h.ct (c := c.toNat) (by omega)
  have cf := h.bts.frozen c.toNat
  have hl := h.tsl
  have HA := Lib.hid h
  clear h
  go_enter Try.func33, Try.ntmps33
  go_wp2_with (fail)
  go_ret
  exact ⟨rfl, ⟨_, _, _, rclear_end HA.out c h0 h1⟩, (Keeps.refl _ _).setCell HA.out.lt _⟩
theorem rclear_err (h : RfAt L w a ws ts) (c : Int) (hc : c < 0 ∨ ts.length ≤ c) :
    Calls Try.prog 33 #[.pointer (some ⟨a, 0, none⟩), .int .i64 c] w fun e w' => e = .returned (.int .i64 202) ∧ w = w' := by
  obtain ⟨bw, bt, vs, h⟩ := h
  have c1 := h.c1
  have hl := h.tsl
  clear h
  rcases hc with hc | hc
  · go_enter Try.func33, Try.ntmps33
    go_wp2_with (fail)
    go_ret
    exact ⟨rfl, rfl⟩
  · have h0 : 0 ≤ c := by omega
    go_enter Try.func33, Try.ntmps33
    go_wp2_with (fail)
    go_ret
    exact ⟨rfl, rfl⟩

/-- What a call answers, and what both hold behind it. -/
structure PairOk (f t : FuncId) (L : Nat → Prop) (w : World) (a m : Nat) (ws ws2 : List Int) (ts ts2 : List (List Acc)) (args : Array Value) (targs : Nat → Array Value) (ea et : Value) : Prop where
  ar : Calls Try.prog f args w fun e w' => e = .returned ea ∧ ArAt L w' a ws2 ts2 ∧ Keeps L w w'
  rf : ∀ L2 W r, RfAt L2 W r ws ts → Calls Try.prog t (targs r) W fun e w' => e = .returned et ∧ RfAt L2 w' r ws2 ts2 ∧ Keeps L2 W w'
  sh : Short (m + 1) ts2
  ln : ts2.length = ts.length

theorem three (n : Nat) (l : Nat) (c i : Int) : ((c < 0 ∨ (n : Int) ≤ c) ∨ ((0 ≤ c ∧ c < n) ∧ (i < 0 ∨ (l : Int) ≤ i))) ∨ ((0 ≤ c ∧ c < n) ∧ (0 ≤ i ∧ i < l)) := by omega

theorem load_pair (h : ArAt L w a ws ts) {m : Nat} (hs : Short m ts) (hm : m ≤ 1099511627770) (c i : Int) :
    ∃ (lv cd : Int) (wf : Bool) (ws2 : List Int) (ts2 : List (List Acc)), PairOk 17 32 L w a m ws ws2 ts ts2 #[.pointer (some ⟨a, 0, none⟩), .int .i64 c, .int .i64 i] (fun r => #[.pointer (some ⟨r, 0, none⟩), .int .i64 0, .int .i64 c, .int .i64 i, .int .i64 0, .int .i64 0]) (.tuple #[.int .i64 lv, .int .i64 cd]) (.tuple #[.int .i64 lv, .bool wf, .int .i64 cd]) := by
  rcases three ts.length ws.length c i with (hc | ⟨hc, hi⟩) | ⟨hc, hi⟩
  · exact ⟨0, 202, false, ws, ts, (load_err (by decide) (place_core h c i hc)).mono fun e w' ⟨h1, h2⟩ => ⟨h1, h2 ▸ h, h2 ▸ Keeps.refl _ _⟩, fun L2 W r hr => (touch_err (by decide) 0 c i 0 0 (rat_core hr c i hc)).mono fun e w' ⟨h1, h2⟩ => ⟨h1, h2 ▸ hr, h2 ▸ Keeps.refl _ _⟩, hs.mono (by omega), rfl⟩
  · exact ⟨0, 201, false, ws, ts, (load_err (by decide) (place_word h c i hc.1 hc.2 hi)).mono fun e w' ⟨h1, h2⟩ => ⟨h1, h2 ▸ h, h2 ▸ Keeps.refl _ _⟩, fun L2 W r hr => (touch_err (by decide) 0 c i 0 0 (rat_word hr c i hc.1 hc.2 hi)).mono fun e w' ⟨h1, h2⟩ => ⟨h1, h2 ▸ hr, h2 ▸ Keeps.refl _ _⟩, hs.mono (by omega), rfl⟩
  · exact ⟨rd ws i, 0, false, ws, noted ts c (i, false), load_to h (Room.of hs (by omega)) hc hi rfl rfl, fun L2 W r hr => by
      have := touch_gen hr 0 c i 0 0 hc.1 hc.2 hi.1 hi.2 (wf := false) (nw := rd ws i) (.inl ⟨rfl, rfl, rfl⟩) (Nat.le_trans hs.at_ (by omega))
      rw [wr_rd rfl hi] at this
      exact this, hs.noted _, by simp⟩
theorem store_pair (h : ArAt L w a ws ts) {m : Nat} (hs : Short m ts) (hm : m ≤ 1099511627770) (c i v : Int) :
    ∃ (lv cd : Int) (wf : Bool) (ws2 : List Int) (ts2 : List (List Acc)), PairOk 20 32 L w a m ws ws2 ts ts2 #[.pointer (some ⟨a, 0, none⟩), .int .i64 c, .int .i64 i, .int .i64 v] (fun r => #[.pointer (some ⟨r, 0, none⟩), .int .i64 1, .int .i64 c, .int .i64 i, .int .i64 0, .int .i64 v]) (.int .i64 cd) (.tuple #[.int .i64 lv, .bool wf, .int .i64 cd]) := by
  rcases three ts.length ws.length c i with (hc | ⟨hc, hi⟩) | ⟨hc, hi⟩
  · exact ⟨0, 202, false, ws, ts, (store_err _ (by decide) (place_core h c i hc)).mono fun e w' ⟨h1, h2⟩ => ⟨h1, h2 ▸ h, h2 ▸ Keeps.refl _ _⟩, fun L2 W r hr => (touch_err (by decide) 1 c i 0 v (rat_core hr c i hc)).mono fun e w' ⟨h1, h2⟩ => ⟨h1, h2 ▸ hr, h2 ▸ Keeps.refl _ _⟩, hs.mono (by omega), rfl⟩
  · exact ⟨0, 201, false, ws, ts, (store_err _ (by decide) (place_word h c i hc.1 hc.2 hi)).mono fun e w' ⟨h1, h2⟩ => ⟨h1, h2 ▸ h, h2 ▸ Keeps.refl _ _⟩, fun L2 W r hr => (touch_err (by decide) 1 c i 0 v (rat_word hr c i hc.1 hc.2 hi)).mono fun e w' ⟨h1, h2⟩ => ⟨h1, h2 ▸ hr, h2 ▸ Keeps.refl _ _⟩, hs.mono (by omega), rfl⟩
  · exact ⟨v, 0, true, wr ws i v, noted ts c (i, true), store_to h (Room.of hs (by omega)) hc hi rfl rfl, fun L2 W r hr => touch_gen hr 1 c i 0 v hc.1 hc.2 hi.1 hi.2 (wf := true) (nw := v) (.inr (.inl ⟨rfl, rfl, rfl⟩)) (Nat.le_trans hs.at_ (by omega)), hs.noted _, by simp⟩
theorem cas_pair (h : ArAt L w a ws ts) {m : Nat} (hs : Short m ts) (hm : m ≤ 1099511627770) (c i o v : Int) :
    ∃ (lv cd : Int) (wf : Bool) (ws2 : List Int) (ts2 : List (List Acc)), PairOk 19 32 L w a m ws ws2 ts ts2 #[.pointer (some ⟨a, 0, none⟩), .int .i64 c, .int .i64 i, .int .i64 o, .int .i64 v] (fun r => #[.pointer (some ⟨r, 0, none⟩), .int .i64 2, .int .i64 c, .int .i64 i, .int .i64 o, .int .i64 v]) (.tuple #[.bool wf, .int .i64 cd]) (.tuple #[.int .i64 lv, .bool wf, .int .i64 cd]) := by
  rcases three ts.length ws.length c i with (hc | ⟨hc, hi⟩) | ⟨hc, hi⟩
  · exact ⟨0, 202, false, ws, ts, (cas_err _ _ (by decide) (place_core h c i hc)).mono fun e w' ⟨h1, h2⟩ => ⟨h1, h2 ▸ h, h2 ▸ Keeps.refl _ _⟩, fun L2 W r hr => (touch_err (by decide) 2 c i o v (rat_core hr c i hc)).mono fun e w' ⟨h1, h2⟩ => ⟨h1, h2 ▸ hr, h2 ▸ Keeps.refl _ _⟩, hs.mono (by omega), rfl⟩
  · exact ⟨0, 201, false, ws, ts, (cas_err _ _ (by decide) (place_word h c i hc.1 hc.2 hi)).mono fun e w' ⟨h1, h2⟩ => ⟨h1, h2 ▸ h, h2 ▸ Keeps.refl _ _⟩, fun L2 W r hr => (touch_err (by decide) 2 c i o v (rat_word hr c i hc.1 hc.2 hi)).mono fun e w' ⟨h1, h2⟩ => ⟨h1, h2 ▸ hr, h2 ▸ Keeps.refl _ _⟩, hs.mono (by omega), rfl⟩
  · by_cases he : rd ws i = o
    · exact ⟨v, 0, true, wr ws i v, noted ts c (i, true), cas_yes_to h (Room.of hs (by omega)) hc hi he rfl rfl, fun L2 W r hr => touch_gen hr 2 c i o v hc.1 hc.2 hi.1 hi.2 (wf := true) (nw := v) (.inr (.inr (.inl ⟨rfl, he, rfl, rfl⟩))) (Nat.le_trans hs.at_ (by omega)), hs.noted _, by simp⟩
    · exact ⟨rd ws i, 0, false, ws, noted ts c (i, false), cas_no_to h (Room.of hs (by omega)) hc hi he rfl, fun L2 W r hr => by
        have := touch_gen hr 2 c i o v hc.1 hc.2 hi.1 hi.2 (wf := false) (nw := rd ws i) (.inr (.inr (.inr (.inl ⟨rfl, he, rfl, rfl⟩)))) (Nat.le_trans hs.at_ (by omega))
        rw [wr_rd rfl hi] at this
        exact this, hs.noted _, by simp⟩
theorem add_pair (h : ArAt L w a ws ts) {m : Nat} (hs : Short m ts) (hm : m ≤ 1099511627770) (c i v : Int) :
    ∃ (lv cd : Int) (wf : Bool) (ws2 : List Int) (ts2 : List (List Acc)), PairOk 23 32 L w a m ws ws2 ts ts2 #[.pointer (some ⟨a, 0, none⟩), .int .i64 c, .int .i64 i, .int .i64 v] (fun r => #[.pointer (some ⟨r, 0, none⟩), .int .i64 3, .int .i64 c, .int .i64 i, .int .i64 0, .int .i64 v]) (.tuple #[.int .i64 lv, .int .i64 cd]) (.tuple #[.int .i64 lv, .bool wf, .int .i64 cd]) := by
  rcases three ts.length ws.length c i with (hc | ⟨hc, hi⟩) | ⟨hc, hi⟩
  · exact ⟨0, 202, false, ws, ts, (add_err _ (by decide) (place_core h c i hc)).mono fun e w' ⟨h1, h2⟩ => ⟨h1, h2 ▸ h, h2 ▸ Keeps.refl _ _⟩, fun L2 W r hr => (touch_err (by decide) 3 c i 0 v (rat_core hr c i hc)).mono fun e w' ⟨h1, h2⟩ => ⟨h1, h2 ▸ hr, h2 ▸ Keeps.refl _ _⟩, hs.mono (by omega), rfl⟩
  · exact ⟨0, 201, false, ws, ts, (add_err _ (by decide) (place_word h c i hc.1 hc.2 hi)).mono fun e w' ⟨h1, h2⟩ => ⟨h1, h2 ▸ h, h2 ▸ Keeps.refl _ _⟩, fun L2 W r hr => (touch_err (by decide) 3 c i 0 v (rat_word hr c i hc.1 hc.2 hi)).mono fun e w' ⟨h1, h2⟩ => ⟨h1, h2 ▸ hr, h2 ▸ Keeps.refl _ _⟩, hs.mono (by omega), rfl⟩
  · exact ⟨wrap64 (rd ws i + v), 0, true, wr ws i (wrap64 (rd ws i + v)), noted ts c (i, true), add_to h (Room.of hs (by omega)) hc hi rfl rfl rfl, fun L2 W r hr => touch_gen hr 3 c i 0 v hc.1 hc.2 hi.1 hi.2 (wf := true) (nw := wrap64 (rd ws i + v)) (.inr (.inr (.inr (.inr ⟨rfl, rfl, rfl⟩)))) (Nat.le_trans hs.at_ (by omega)), hs.noted _, by simp⟩
theorem short_set {m : Nat} {ts : List (List Acc)} (hs : Short m ts) (k : Nat) : Short m (ts.set k []) := by
  intro t ht
  rcases List.mem_or_eq_of_mem_set ht with ht | rfl
  · exact hs t ht
  · exact Nat.zero_le _
theorem clear_pair (h : ArAt L w a ws ts) {m : Nat} (hs : Short m ts) (c : Int) :
    ∃ (cd : Int) (ts2 : List (List Acc)), PairOk 24 33 L w a m ws ws ts ts2 #[.pointer (some ⟨a, 0, none⟩), .int .i64 c] (fun r => #[.pointer (some ⟨r, 0, none⟩), .int .i64 c]) (.int .i64 cd) (.int .i64 cd) := by
  by_cases hc : c < 0 ∨ (ts.length : Int) ≤ c
  · exact ⟨202, ts, (clear_err (by decide) (core_err h c hc)).mono fun e w' ⟨h1, h2⟩ => ⟨h1, h2 ▸ h, h2 ▸ Keeps.refl _ _⟩, fun L2 W r hr => (rclear_err hr c hc).mono fun e w' ⟨h1, h2⟩ => ⟨h1, h2 ▸ hr, h2 ▸ Keeps.refl _ _⟩, hs.mono (by omega), rfl⟩
  · exact ⟨0, ts.set c.toNat [], clear_ok h c (by omega) (by omega), fun L2 W r hr => rclear_ok hr c (by omega) (by omega), (short_set hs _).mono (by omega), by simp⟩
end
end Go.Proofs.Ytpmgfjglkbbhgaa
