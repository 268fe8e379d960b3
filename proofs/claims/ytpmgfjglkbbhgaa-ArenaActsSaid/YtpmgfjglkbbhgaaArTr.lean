
/- SpoilAccesss; law2.traces. -/
import Derived.Test.YtpmgfjglkbbhgaaArPair
import Derived.Test.YtpmgfjglkbbhgaaActs
namespace Go.Proofs.Ytpmgfjglkbbhgaa
open Go.RowKit
set_option maxHeartbeats 1000000

/-- A row of accesses of the call's own, at block g, the first k of them. -/
def Own2 (w : World) (g k : Nat) : Prop := ∃ cur : Array Value, Blk w g 40 cur ∧ k * 2 ≤ cur.size ∧ ∀ j, j < k → ∃ x : Int, cur[j * 2]? = some (.int .i64 x)
theorem Own2.cell {w : World} {g k : Nat} (h : Own2 w g k) {j : Nat} (hj : j < k) : ∃ x : Int, w.cell? ⟨g, j * 2, none⟩ = some (.int .i64 x) := by
  obtain ⟨cur, hb, _, hc⟩ := h
  obtain ⟨x, hx⟩ := hc j hj
  exact ⟨x, (hb.cell _).trans hx⟩
theorem Own2.frozen {w : World} {g k : Nat} (h : Own2 w g k) (j : Nat) : w.frozen? ⟨g, j, none⟩ = false := by
  obtain ⟨cur, hb, _⟩ := h
  exact hb.frozen j
theorem Own2.set {w : World} {g k : Nat} (h : Own2 w g k) {j : Nat} (hj : j < k) (x : Int) : Own2 (w.setCell ⟨g, j * 2, none⟩ (.int .i64 x)) g k := by
  obtain ⟨cur, hb, hs, hc⟩ := h
  refine ⟨_, hb.set_ (j * 2) _, by simpa using hs, fun i hi => ?_⟩
  by_cases e : j * 2 = i * 2
  · exact ⟨x, by rw [Array.getElem?_setIfInBounds, if_pos e, if_pos (by omega)]⟩
  · obtain ⟨y, hy⟩ := hc i hi
    exact ⟨y, by rw [Array.getElem?_setIfInBounds, if_neg e]; exact hy⟩

theorem spoil_accs {w : World} {base : Nat} {t : List Acc} {v : Value} (h : w.ownsRow base 40 2 v t.length (encAccs t)) (hk : t.length ≤ 1099511627776) :
    Calls Try.prog 52 #[v] w fun e w' => e = .returned (.tuple #[]) ∧ Keeps (fun b => v.ownBlock ≠ some b) w w' := by
  rcases h.2 with ⟨rfl, h0⟩ | ⟨g, cap, cur, rfl, hb, hg, hnc, hcm, hcs, htake⟩
  · clear h
    go_enter Try.func52, Try.ntmps52
    go_wp2
    go_loopw [2] (fun i wr => i = .int .i64 0 ∧ wr = w) (fun _ _ => 0)
    case atStart => exact ⟨rfl, rfl⟩
    case round =>
      obtain ⟨rfl, rfl⟩ := hrel
      go_wp2
      go_end0
      exact ⟨rfl, Keeps.refl _ _⟩
  · have HO : Own2 w g t.length := by
      have hl := encAccs_length t
      refine ⟨cur, hg, by omega, fun j hj => ?_⟩
      have h1 := (encAccs_at t j hj).1
      rw [← htake, List.getElem?_take] at h1
      split at h1
      · exact ⟨_, by simpa using h1⟩
      · cases h1
    clear h hg htake
    generalize t.length = k at *
    go_enter Try.func52, Try.ntmps52
    go_wp2
    go_loopw [2] (fun i wr => ∃ j : Nat, i = .int .i64 j ∧ j ≤ k ∧ Own2 wr g k ∧ Keeps (fun b => (Value.slice (some ⟨g, 0, none⟩) k cap).ownBlock ≠ some b) w wr) (fun i _ => k - (intOf i).toNat)
    case atStart => exact ⟨0, rfl, Nat.zero_le _, HO, Keeps.refl _ _⟩
    case round =>
      clear HO
      obtain ⟨j, rfl, hj, ho, hK⟩ := hrel
      have HO := Lib.hid ho
      have HK := Lib.hid hK
      clear hK
      by_cases hlt : j < k
      · obtain ⟨y, q1⟩ := ho.cell hlt
        have q2 := ho.frozen (j * 2)
        clear ho
        go_wp2
        go_roundw
        case rel => exact ⟨j + 1, by go_num, by omega, HO.out.set hlt _, HK.out.setCell (p := ⟨g, j * 2, none⟩) (by simp [Value.ownBlock]) _⟩
        case measure => simp [intOf]; omega
      · clear ho
        go_wp2
        go_end0
        exact ⟨rfl, HK.out⟩

section
variable {L L1 L2 : Nat → Prop} {w w' : World} {a r : Nat} {ws ws2 : List Int} {ts : List (List Acc)}
theorem RfAt.below (h : RfAt L w a ws ts) (hb : Below w.heap.size w w') : RfAt L w' a ws ts :=
  h.move (fun b hl => Nat.lt_of_lt_of_le (h.bd b hl) hb.size) (fun _ hl _ => hl) (fun b hlt _ => hb.block b hlt)
theorem traces_bad (hA : ArAt L1 w a ws ts) (hR : RfAt L2 w r ws2 ts) (c : Int) (hc : c < 0 ∨ ts.length ≤ c) :
    Calls Try.prog 34 #[.pointer (some ⟨a, 0, none⟩), .pointer (some ⟨r, 0, none⟩), .int .i64 c] w fun e w' => e = .returned (.bool true) ∧ Below w.heap.size w w' := by
  have H1 := Lib.hid (trace_err (by decide) (core_err hA c hc))
  obtain ⟨bw, bt, vs, h⟩ := hR
  have c1 := h.c1
  have hl := h.tsl
  clear h hA
  rcases hc with hc | hc
  · go_enter Try.func34, Try.ntmps34
    go_wp2_with (fail)
    refine H1.out.mono ?_
    rintro e w' ⟨rfl, rfl⟩
    go_wp2_with (fail)
    go_ret
    exact ⟨rfl, Below.refl _ _⟩
  · have h0 : 0 ≤ c := by omega
    go_enter Try.func34, Try.ntmps34
    go_wp2_with (fail)
    refine H1.out.mono ?_
    rintro e w' ⟨rfl, rfl⟩
    go_wp2_with (fail)
    go_ret
    exact ⟨rfl, Below.refl _ _⟩

theorem traces_ok (hA : ArAt L1 w a ws ts) (hR : RfAt L2 w r ws2 ts) (hm : Room ts) (c : Int) (h0 : 0 ≤ c ∧ c < ts.length) :
    Calls Try.prog 34 #[.pointer (some ⟨a, 0, none⟩), .pointer (some ⟨r, 0, none⟩), .int .i64 c] w fun e w' => e = .returned (.bool true) ∧ Below w.heap.size w w' := by
  obtain ⟨c, rfl⟩ : ∃ c' : Nat, c = c' := ⟨c.toNat, by omega⟩
  have hc : c < ts.length := by omega
  obtain ⟨bw, bt, vs, hr⟩ := hR
  have hl := hr.tsl
  have HT := Lib.hid (fun W (h : ArAt L1 W a ws ts) => trace_to h hm (c := (c : Int)) h0 rfl)
  have FX := Lib.hid (show ∀ W, Below w.heap.size w W → W.cell? ⟨r, 1, none⟩ = some (.slice (some ⟨bt, 0, none⟩) ts.length ts.length) ∧ W.cell? ⟨bt, c, none⟩ = some (vs.getD c undef) ∧ Sl W 2 (vs.getD c undef) (tr ts (c : Int)).length (encAccs (tr ts (c : Int))) from fun W hB =>
    ⟨(hB.cell (p := ⟨r, 1, none⟩) hr.ba.lt).trans hr.c1, (hB.cell (p := ⟨bt, c, none⟩) hr.bts.lt).trans (hr.ct hc), (Sl.ofOwn (hr.row c hc)).below hB⟩)
  have hrm : (tr ts (c : Int)).length ≤ 1099511627776 := hm.at_
  have HA := Lib.hid hA
  clear hr hA
  generalize vs.getD c undef = v0 at *
  generalize tr ts (c : Int) = t at *
  go_enter Try.func34, Try.ntmps34
  go_wp2_with (fail)
  refine (HT.out _ HA.out).mono ?_
  rintro e w1 ⟨v1, rfl, hown1, hB1⟩
  obtain ⟨f1, f2, f3⟩ := FX.out _ hB1
  have HB1 := Lib.hid hB1
  have HO1 := Lib.hid hown1
  have HF3 := Lib.hid f3
  clear hB1 hown1 f3
  go_wp2_with (fail)
  refine (same_true t v1 v0 w1 (Sl.ofOwn HO1.out) HF3.out hrm).mono ?_
  rintro e w2 ⟨rfl, d2, rfl⟩
  go_wp2_with (fail)
  refine (spoil_accs (w := w1.drewN d2) (v := v1) HO1.out hrm).mono ?_
  rintro e w3 ⟨rfl, hK3⟩
  have hB3 : Below w.heap.size w w3 := HB1.out.trans (hK3.undrewN.below fun b hb e => by
    have := (HO1.out.lt b e).1
    omega)
  obtain ⟨g1, g2, g3⟩ := FX.out _ hB3
  have HB3 := Lib.hid hB3
  have HA3 := Lib.hid (HA.out.below hB3)
  have FX2 := Lib.hid (fun W (hb : Below w3.heap.size w3 W) => FX.out W (hB3.trans (hb.mono hB3.size)))
  clear hK3 hB3 f1 f2 g3
  go_wp2_with (fail)
  go_region_held3 (fun w' => w'.cell? ⟨r, 1, none⟩ = some (.slice (some ⟨bt, 0, none⟩) ts.length ts.length) ∧ w'.cell? ⟨bt, c, none⟩ = some v0)
    (first | exact ⟨g1, g2⟩ | exact ⟨j1, j2⟩)
    ((first
      | (go_at_call 22; refine (HT.out _ HA3.out.drew).mono ?_
         rintro e w5 ⟨v5, rfl, hown5, hB5⟩
         have hB5' : Below w3.heap.size w3 w5 := ⟨hB5.os, hB5.tape, hB5.output, hB5.size, hB5.block⟩
         obtain ⟨j1, j2, j3⟩ := FX2.out _ hB5'
         have HB5 := Lib.hid hB5'
         have HO5 := Lib.hid hown5
         have HJ3 := Lib.hid j3
         clear hB5 hB5' hown5 j3)
      | (go_at_call 21; refine (same_true t v5 v0 w5 (Sl.ofOwn HO5.out) HJ3.out hrm).mono ?_; rintro e w6 ⟨rfl, d6, rfl⟩)))
  go_wp2_with (fail)
  go_ret
  exact ⟨rfl, ⟨(HB3.out.trans (HB5.out.mono HB3.out.size)).os, (HB3.out.trans (HB5.out.mono HB3.out.size)).tape, (HB3.out.trans (HB5.out.mono HB3.out.size)).output, (HB3.out.trans (HB5.out.mono HB3.out.size)).size, (HB3.out.trans (HB5.out.mono HB3.out.size)).block⟩⟩
end
end Go.Proofs.Ytpmgfjglkbbhgaa
