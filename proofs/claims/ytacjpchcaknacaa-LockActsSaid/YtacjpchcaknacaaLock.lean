
/- lock: Try, Unlock, Holder, Begin, Same, Turn; awake. -/
import Derived.Test.YtacjpchcaknacaaArP
namespace Go.Proofs.Ytacjpchcaknacaa
open Go.RowKit
set_option maxHeartbeats 400000

theorem lplace_ok (w : World) : Calls Try.prog 48 #[.int .i64 0] w fun e w' => e = .returned (.int .i64 0) ∧ w = w' := by
  go_enter Try.func48, Try.ntmps48
  go_wp2
  go_ret
  exact ⟨rfl, rfl⟩
theorem lplace_nil (w : World) : Calls Try.prog 48 #[.int .i64 1] w fun e w' => e = .returned (.int .i64 1) ∧ w = w' := by
  go_enter Try.func48, Try.ntmps48
  go_wp2
  go_ret
  exact ⟨rfl, rfl⟩
theorem lplace_err (k : Int) (hk : (k == 0) = false) (hk1 : (k == 1) = false) (w : World) : Calls Try.prog 48 #[.int .i64 k] w fun e w' => e = .returned (.int .i64 500) ∧ w = w' := by
  go_enter Try.func48, Try.ntmps48
  go_wp2
  go_ret
  exact ⟨rfl, rfl⟩

section
variable {L : Nat → Prop} {w : World} {a : Nat} {ws : List Int} {ts : List (List Acc)}

theorem try_yes (h : ArAt L w a ws ts) (hm : Room ts) {c i : Int} (h0 : 0 ≤ c ∧ c < ts.length) (h1 : 0 ≤ i ∧ i < ws.length) (hr : rd ws i = 0) :
    Calls Try.prog 19 #[.pointer (some ⟨a, 0, none⟩), .int .i64 c, .int .i64 i] w fun e w' => e = .returned (.tuple #[.bool true, .int .i64 0]) ∧ ArAt L w' a (wr ws i (c + 1)) (noted ts c (i, true)) ∧ Keeps L w w' := by
  have htl := h.tsl
  have hc := Lib.hid (cas_yes_to (v := c + 1) h hm h0 h1 hr rfl rfl)
  clear h
  go_enter Try.func19, Try.ntmps19
  go_wp2_with (first
    | (go_at_call 50; refine hc.out.mono ?_; rintro e w1 ⟨rfl, hA, hK⟩)
    | (go_at_call 48; refine (lplace_ok _).mono ?_; rintro e w' ⟨rfl, rfl⟩))
  go_ret2
  exact ⟨rfl, hA, hK⟩
theorem try_no (h : ArAt L w a ws ts) (hm : Room ts) {c i : Int} (h0 : 0 ≤ c ∧ c < ts.length) (h1 : 0 ≤ i ∧ i < ws.length) (hr : rd ws i ≠ 0) :
    Calls Try.prog 19 #[.pointer (some ⟨a, 0, none⟩), .int .i64 c, .int .i64 i] w fun e w' => e = .returned (.tuple #[.bool false, .int .i64 0]) ∧ ArAt L w' a ws (noted ts c (i, false)) ∧ Keeps L w w' := by
  have htl := h.tsl
  have hc := Lib.hid (cas_no_to (v := c + 1) h hm h0 h1 hr rfl)
  clear h hr
  go_enter Try.func19, Try.ntmps19
  go_wp2_with (first
    | (go_at_call 50; refine hc.out.mono ?_; rintro e w1 ⟨rfl, hA, hK⟩)
    | (go_at_call 48; refine (lplace_ok _).mono ?_; rintro e w' ⟨rfl, rfl⟩))
  go_ret2
  exact ⟨rfl, hA, hK⟩
theorem try_err {p : Value} {c i k : Int} {w : World} (hk : (k == 0) = false) (hk1 : (k == 1) = false) (hp : Calls Try.prog 52 #[p, .int .i64 c, .int .i64 i] w fun e w' => e = .returned (.int .i64 k) ∧ w = w') :
    Calls Try.prog 19 #[p, .int .i64 c, .int .i64 i] w fun e w' => e = .returned (.tuple #[.bool false, .int .i64 500]) ∧ w = w' := by
  have hc := Lib.hid (fun v => cas_err (.int .i64 0) v (by simp only [bne, hk, Bool.not_false]) hp)
  clear hp
  have hl := lplace_err k hk hk1
  have HL := Lib.hid hl
  clear hl
  go_enter Try.func19, Try.ntmps19
  go_wp2_with (first
    | (go_at_call 50; refine (hc.out _).mono ?_; rintro e w1 ⟨rfl, rfl⟩)
    | (go_at_call 48; refine (HL.out _).mono ?_; rintro e w' ⟨rfl, rfl⟩))
  go_ret2
  exact ⟨rfl, rfl⟩
theorem try_nil (c i : Int) (w : World) :
    Calls Try.prog 19 #[.pointer none, .int .i64 c, .int .i64 i] w fun e w' => e = .returned (.tuple #[.bool false, .int .i64 1]) ∧ w = w' := by
  have hc := Lib.hid (fun v => cas_err (.int .i64 0) v (by decide) (place_nil c i w))
  go_enter Try.func19, Try.ntmps19
  go_wp2_with (first
    | (go_at_call 50; refine (hc.out _).mono ?_; rintro e w1 ⟨rfl, rfl⟩)
    | (go_at_call 48; refine (lplace_nil _).mono ?_; rintro e w' ⟨rfl, rfl⟩))
  go_ret2
  exact ⟨rfl, rfl⟩

theorem unlock_ok (h : ArAt L w a ws ts) {c i : Int} (hm : Room (noted ts c (i, false))) (hm0 : Room ts) (h0 : 0 ≤ c ∧ c < ts.length) (h1 : 0 ≤ i ∧ i < ws.length) (hr : rd ws i = c + 1) :
    Calls Try.prog 17 #[.pointer (some ⟨a, 0, none⟩), .int .i64 c, .int .i64 i] w fun e w' => e = .returned (.int .i64 0) ∧ ArAt L w' a (wr ws i 0) (noted (noted ts c (i, false)) c (i, true)) ∧ Keeps L w w' := by
  have htl := h.tsl
  have hc := Lib.hid (load_to h hm0 h0 h1 hr rfl)
  have h0' : 0 ≤ c ∧ c < (noted ts c (i, false)).length := by simpa using h0
  have H0 := Lib.hid h0'
  clear h hr h0'
  have H1 := Lib.hid h1
  clear h1
  go_enter Try.func17, Try.ntmps17
  go_wp2_with (first
    | (go_at_call 24; refine hc.out.mono ?_; rintro e w1 ⟨rfl, hA, hK⟩)
    | (go_at_call 49; refine (store_to hA hm H0.out H1.out rfl rfl).mono ?_; rintro e w2 ⟨rfl, hA2, hK2⟩)
    | (go_at_call 48; refine (lplace_ok _).mono ?_; rintro e w' ⟨rfl, rfl⟩))
  go_ret
  exact ⟨rfl, hA2, hK.trans hK2⟩
theorem unlock_held (h : ArAt L w a ws ts) (hm0 : Room ts) {c i : Int} (h0 : 0 ≤ c ∧ c < ts.length) (h1 : 0 ≤ i ∧ i < ws.length) (hr : rd ws i ≠ c + 1) :
    Calls Try.prog 17 #[.pointer (some ⟨a, 0, none⟩), .int .i64 c, .int .i64 i] w fun e w' => e = .returned (.int .i64 501) ∧ ArAt L w' a ws (noted ts c (i, false)) ∧ Keeps L w w' := by
  have htl := h.tsl
  have hne : (rd ws i != c + 1) = true := by simpa using hr
  have hc := Lib.hid (load_to h hm0 h0 h1 rfl rfl)
  clear h hr
  generalize rd ws i = v at *
  go_enter Try.func17, Try.ntmps17
  go_wp2_with (first
    | (go_at_call 24; refine hc.out.mono ?_; rintro e w1 ⟨rfl, hA, hK⟩)
    | (go_at_call 48; refine (lplace_ok _).mono ?_; rintro e w' ⟨rfl, rfl⟩))
  go_ret
  exact ⟨rfl, hA, hK⟩
theorem unlock_err {p : Value} {c i k : Int} {w : World} (hk : (k == 0) = false) (hk1 : (k == 1) = false) (hp : Calls Try.prog 52 #[p, .int .i64 c, .int .i64 i] w fun e w' => e = .returned (.int .i64 k) ∧ w = w') :
    Calls Try.prog 17 #[p, .int .i64 c, .int .i64 i] w fun e w' => e = .returned (.int .i64 500) ∧ w = w' := by
  have hkn : (k != 0) = true := by simp only [bne, hk, Bool.not_false]
  have hc := Lib.hid (load_err hkn hp)
  have HL := Lib.hid (lplace_err k hk hk1)
  clear hp
  go_enter Try.func17, Try.ntmps17
  go_wp2_with (first
    | (go_at_call 24; refine hc.out.mono ?_; rintro e w1 ⟨rfl, rfl⟩)
    | (go_at_call 48; refine (HL.out _).mono ?_; rintro e w' ⟨rfl, rfl⟩))
  go_ret
  exact ⟨rfl, rfl⟩

/-- Who holds a lock word. -/
def holder (v n : Int) : Int := if v < 1 ∨ n < v then -1 else v - 1
theorem holder_ok (h : ArAt L w a ws ts) (hm0 : Room ts) {c i : Int} (h0 : 0 ≤ c ∧ c < ts.length) (h1 : 0 ≤ i ∧ i < ws.length) :
    Calls Try.prog 20 #[.pointer (some ⟨a, 0, none⟩), .int .i64 c, .int .i64 i] w fun e w' => e = .returned (.tuple #[.int .i64 (holder (rd ws i) ts.length), .int .i64 0]) ∧ ArAt L w' a ws (noted ts c (i, false)) ∧ Keeps L w w' := by
  have htl := h.tsl
  have hc := Lib.hid (load_to h hm0 h0 h1 rfl rfl)
  clear h
  generalize rd ws i = v at *
  unfold holder
  by_cases a1 : v < 1
  · rw [if_pos (Or.inl a1)]
    go_enter Try.func20, Try.ntmps20
    go_wp2_with (first
      | (go_at_call 24; refine hc.out.mono ?_; rintro e w1 ⟨rfl, hA, hK⟩)
      | (go_at_call 51; refine (cores_calls hA).mono ?_; rintro e w' ⟨rfl, rfl⟩)
      | (go_at_call 48; refine (lplace_ok _).mono ?_; rintro e w' ⟨rfl, rfl⟩))
    go_ret2
    exact ⟨rfl, hA, hK⟩
  · by_cases a2 : (ts.length : Int) < v
    · rw [if_pos (Or.inr a2)]
      have a1' : 1 ≤ v := by omega
      go_enter Try.func20, Try.ntmps20
      go_wp2_with (first
        | (go_at_call 24; refine hc.out.mono ?_; rintro e w1 ⟨rfl, hA, hK⟩)
        | (go_at_call 51; refine (cores_calls hA).mono ?_; rintro e w' ⟨rfl, rfl⟩; rw [noted_length])
        | (go_at_call 48; refine (lplace_ok _).mono ?_; rintro e w' ⟨rfl, rfl⟩))
      go_ret2
      exact ⟨rfl, hA, hK⟩
    · rw [if_neg (by omega)]
      have a1' : 1 ≤ v := by omega
      have a2' : v ≤ ts.length := by omega
      go_enter Try.func20, Try.ntmps20
      go_wp2_with (first
        | (go_at_call 24; refine hc.out.mono ?_; rintro e w1 ⟨rfl, hA, hK⟩)
        | (go_at_call 51; refine (cores_calls hA).mono ?_; rintro e w' ⟨rfl, rfl⟩; rw [noted_length])
        | (go_at_call 48; refine (lplace_ok _).mono ?_; rintro e w' ⟨rfl, rfl⟩))
      go_ret2
      exact ⟨rfl, hA, hK⟩
theorem holder_err {p : Value} {c i k : Int} {w : World} (hk : (k == 0) = false) (hk1 : (k == 1) = false) (hp : Calls Try.prog 52 #[p, .int .i64 c, .int .i64 i] w fun e w' => e = .returned (.int .i64 k) ∧ w = w') :
    Calls Try.prog 20 #[p, .int .i64 c, .int .i64 i] w fun e w' => e = .returned (.tuple #[.int .i64 0, .int .i64 500]) ∧ w = w' := by
  have hkn : (k != 0) = true := by simp only [bne, hk, Bool.not_false]
  have hc := Lib.hid (load_err hkn hp)
  have HL := Lib.hid (lplace_err k hk hk1)
  clear hp
  go_enter Try.func20, Try.ntmps20
  go_wp2_with (first
    | (go_at_call 24; refine hc.out.mono ?_; rintro e w1 ⟨rfl, rfl⟩)
    | (go_at_call 48; refine (HL.out _).mono ?_; rintro e w' ⟨rfl, rfl⟩))
  go_ret2
  exact ⟨rfl, rfl⟩

theorem begin_even (h : ArAt L w a ws ts) (hm0 : Room ts) {c i : Int} (h0 : 0 ≤ c ∧ c < ts.length) (h1 : 0 ≤ i ∧ i < ws.length) :
    Calls Try.prog 23 #[.pointer (some ⟨a, 0, none⟩), .int .i64 c, .int .i64 i] w fun e w' => e = .returned (.tuple #[.int .i64 (rd ws i), .bool ((rd ws i).tmod 2 == 0), .int .i64 0]) ∧ ArAt L w' a ws (noted ts c (i, false)) ∧ Keeps L w w' := by
  have hc := Lib.hid (load_to h hm0 h0 h1 rfl rfl)
  clear h
  generalize rd ws i = v at *
  go_enter Try.func23, Try.ntmps23
  go_wp2_with (first
    | (go_at_call 24; refine hc.out.mono ?_; rintro e w1 ⟨rfl, hA, hK⟩)
    | (go_at_call 48; refine (lplace_ok _).mono ?_; rintro e w' ⟨rfl, rfl⟩))
  go_ret3
  exact ⟨rfl, hA, hK⟩
theorem begin_err {p : Value} {c i k : Int} {w : World} (hk : (k == 0) = false) (hk1 : (k == 1) = false) (hp : Calls Try.prog 52 #[p, .int .i64 c, .int .i64 i] w fun e w' => e = .returned (.int .i64 k) ∧ w = w') :
    Calls Try.prog 23 #[p, .int .i64 c, .int .i64 i] w fun e w' => e = .returned (.tuple #[.int .i64 0, .bool false, .int .i64 500]) ∧ w = w' := by
  have hkn : (k != 0) = true := by simp only [bne, hk, Bool.not_false]
  have hc := Lib.hid (load_err hkn hp)
  have HL := Lib.hid (lplace_err k hk hk1)
  clear hp
  go_enter Try.func23, Try.ntmps23
  go_wp2_with (first
    | (go_at_call 24; refine hc.out.mono ?_; rintro e w1 ⟨rfl, rfl⟩)
    | (go_at_call 48; refine (HL.out _).mono ?_; rintro e w' ⟨rfl, rfl⟩))
  go_ret3
  exact ⟨rfl, rfl⟩
theorem same_ok (h : ArAt L w a ws ts) (hm0 : Room ts) {c i : Int} (q : Int) (h0 : 0 ≤ c ∧ c < ts.length) (h1 : 0 ≤ i ∧ i < ws.length) :
    Calls Try.prog 25 #[.pointer (some ⟨a, 0, none⟩), .int .i64 c, .int .i64 i, .int .i64 q] w fun e w' => e = .returned (.tuple #[.bool (rd ws i == q), .int .i64 0]) ∧ ArAt L w' a ws (noted ts c (i, false)) ∧ Keeps L w w' := by
  have hc := Lib.hid (load_to h hm0 h0 h1 rfl rfl)
  clear h
  generalize rd ws i = v at *
  go_enter Try.func25, Try.ntmps25
  go_wp2_with (first
    | (go_at_call 24; refine hc.out.mono ?_; rintro e w1 ⟨rfl, hA, hK⟩)
    | (go_at_call 48; refine (lplace_ok _).mono ?_; rintro e w' ⟨rfl, rfl⟩))
  go_ret2
  exact ⟨rfl, hA, hK⟩
theorem same_err {p : Value} {c i k : Int} {w : World} (q : Int) (hk : (k == 0) = false) (hk1 : (k == 1) = false) (hp : Calls Try.prog 52 #[p, .int .i64 c, .int .i64 i] w fun e w' => e = .returned (.int .i64 k) ∧ w = w') :
    Calls Try.prog 25 #[p, .int .i64 c, .int .i64 i, .int .i64 q] w fun e w' => e = .returned (.tuple #[.bool false, .int .i64 500]) ∧ w = w' := by
  have hkn : (k != 0) = true := by simp only [bne, hk, Bool.not_false]
  have hc := Lib.hid (load_err hkn hp)
  have HL := Lib.hid (lplace_err k hk hk1)
  clear hp
  go_enter Try.func25, Try.ntmps25
  go_wp2_with (first
    | (go_at_call 24; refine hc.out.mono ?_; rintro e w1 ⟨rfl, rfl⟩)
    | (go_at_call 48; refine (HL.out _).mono ?_; rintro e w' ⟨rfl, rfl⟩))
  go_ret2
  exact ⟨rfl, rfl⟩
theorem turn_ok (h : ArAt L w a ws ts) (hm0 : Room ts) {c i : Int} (h0 : 0 ≤ c ∧ c < ts.length) (h1 : 0 ≤ i ∧ i < ws.length) :
    Calls Try.prog 21 #[.pointer (some ⟨a, 0, none⟩), .int .i64 c, .int .i64 i] w fun e w' => e = .returned (.int .i64 0) ∧ ArAt L w' a (wr ws i (wrap64 (rd ws i + 1))) (noted ts c (i, true)) ∧ Keeps L w w' := by
  have hc := Lib.hid (add_to (v := 1) h hm0 h0 h1 rfl rfl rfl)
  clear h
  go_enter Try.func21, Try.ntmps21
  go_wp2_with (first
    | (go_at_call 22; refine hc.out.mono ?_; rintro e w1 ⟨rfl, hA, hK⟩)
    | (go_at_call 48; refine (lplace_ok _).mono ?_; rintro e w' ⟨rfl, rfl⟩))
  go_ret
  exact ⟨rfl, hA, hK⟩
theorem turn_err {p : Value} {c i k : Int} {w : World} (hk : (k == 0) = false) (hk1 : (k == 1) = false) (hp : Calls Try.prog 52 #[p, .int .i64 c, .int .i64 i] w fun e w' => e = .returned (.int .i64 k) ∧ w = w') :
    Calls Try.prog 21 #[p, .int .i64 c, .int .i64 i] w fun e w' => e = .returned (.int .i64 500) ∧ w = w' := by
  have hkn : (k != 0) = true := by simp only [bne, hk, Bool.not_false]
  have hc := Lib.hid (fun v => add_err v hkn hp)
  have HL := Lib.hid (lplace_err k hk hk1)
  clear hp
  go_enter Try.func21, Try.ntmps21
  go_wp2_with (first
    | (go_at_call 22; refine (hc.out _).mono ?_; rintro e w1 ⟨rfl, rfl⟩)
    | (go_at_call 48; refine (HL.out _).mono ?_; rintro e w' ⟨rfl, rfl⟩))
  go_ret
  exact ⟨rfl, rfl⟩
end

set_option maxRecDepth 100000 in
theorem awake5 (w : World) : Calls Try.prog 15 #[] w fun e w' => e = .returned (.bool true) ∧ Below w.heap.size w w' := by
  go_enter Try.func15, Try.ntmps15
  go_wp2_with (go_at_call 18; refine (num_calls _ _).mono ?_; rintro e w' ⟨rfl, rfl⟩)
  refine (new_to (ws := [0, 0, 0, 0]) (ts := [[], []]) (Bd.below w) (by omega) (by omega) rfl rfl).mono ?_
  rintro e w1 ⟨a, rfl, hA, hK⟩
  go_wp2_with (go_at_call 18; refine (num_calls _ _).mono ?_; rintro e w' ⟨rfl, rfl⟩)
  refine (try_yes hA (Room.dec rfl) (c := 1) (i := 0) (by decide) (by decide) rfl).mono ?_
  rintro e w2 ⟨rfl, hA2, hK2⟩
  go_wp2_with (go_at_call 18; refine (num_calls _ _).mono ?_; rintro e w' ⟨rfl, rfl⟩)
  refine (try_no hA2 (Room.dec rfl) (c := 0) (i := 0) (by decide) (by decide) (by decide)).mono ?_
  rintro e w3 ⟨rfl, hA3, hK3⟩
  go_wp2_with (go_at_call 18; refine (num_calls _ _).mono ?_; rintro e w' ⟨rfl, rfl⟩)
  refine (holder_ok hA3 (Room.dec rfl) (c := 0) (i := 0) (by decide) (by decide)).mono ?_
  rintro e w4 ⟨rfl, hA4, hK4⟩
  have eh : holder (rd (wr [0, 0, 0, 0] 0 (1 + 1)) 0) ((noted (noted [[], []] 1 (0, true)) 0 (0, false)).length : Nat) = 1 := by decide
  rw [eh]
  go_wp2_with (go_at_call 18; refine (num_calls _ _).mono ?_; rintro e w' ⟨rfl, rfl⟩)
  refine (unlock_held hA4 (Room.dec rfl) (c := 0) (i := 0) (by decide) (by decide) (by decide)).mono ?_
  rintro e w5 ⟨rfl, hA5, hK5⟩
  go_wp2_with (go_at_call 18; refine (num_calls _ _).mono ?_; rintro e w' ⟨rfl, rfl⟩)
  refine (unlock_ok hA5 (c := 1) (i := 0) (Room.dec rfl) (Room.dec rfl) (by decide) (by decide) (by decide)).mono ?_
  rintro e w6 ⟨rfl, hA6, hK6⟩
  go_wp2_with (go_at_call 18; refine (num_calls _ _).mono ?_; rintro e w' ⟨rfl, rfl⟩)
  refine (try_nil 0 0 _).mono ?_
  rintro e w' ⟨rfl, rfl⟩
  go_wp2_with (go_at_call 18; refine (num_calls _ _).mono ?_; rintro e w' ⟨rfl, rfl⟩)
  go_ret
  exact ⟨rfl, (((((hK.trans hK2).trans hK3).trans hK4).trans hK5).trans hK6).below fun _ h => h⟩
end Go.Proofs.Ytacjpchcaknacaa
