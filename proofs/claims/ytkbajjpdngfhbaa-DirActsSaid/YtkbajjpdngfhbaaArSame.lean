
/- Slices that read as lists; SameAccesss of equal lists. -/
import Derived.Test.YtkbajjpdngfhbaaArNew
namespace Go.Proofs.Ytkbajjpdngfhbaa
open Go.RowKit
set_option maxHeartbeats 400000

/-- A slice value that reads as the cells xs, nil let in. -/
def Sl (w : World) (size : Nat) (v : Value) (n : Nat) (xs : List Value) : Prop :=
  xs.length = n * size ∧ ∃ A cap, v = .slice A n cap ∧ n ≤ cap ∧ (0 < n → ∃ g off, A = some ⟨g, off, none⟩ ∧ ∀ j u, xs[j]? = some u → w.cell? ⟨g, off + j, none⟩ = some u)
theorem Sl.ofOwn {w : World} {base size n : Nat} {e : TypeId} {v : Value} {xs : List Value} (h : w.ownsRow base e size v n xs) : Sl w size v n xs := by
  refine ⟨h.1, ?_⟩
  rcases h.2 with ⟨rfl, rfl⟩ | ⟨g, cap, cur, rfl, hb, hg, hnc, _⟩
  · exact ⟨none, 0, rfl, Nat.le_refl _, fun h => absurd h (by omega)⟩
  · refine ⟨some ⟨g, 0, none⟩, cap, rfl, hnc, fun _ => ⟨g, 0, rfl, fun j u hu => ?_⟩⟩
    have := h.cells (g := g) rfl j u hu
    rw [Addr.add_lit] at this
    exact this
theorem Sl.keep {w w' : World} {size n : Nat} {v : Value} {xs : List Value} (h : Sl w size v n xs) (hk : ∀ (p : Addr) (u : Value), w.cell? p = some u → w'.cell? p = some u) : Sl w' size v n xs := by
  obtain ⟨h1, A, cap, h2, h3, h4⟩ := h
  refine ⟨h1, A, cap, h2, h3, fun hn => ?_⟩
  obtain ⟨g, off, hA, hc⟩ := h4 hn
  exact ⟨g, off, hA, fun j u hu => hk _ _ (hc j u hu)⟩
theorem Sl.drewN {w : World} {size n : Nat} {v : Value} {xs : List Value} (h : Sl w size v n xs) (k : Nat) : Sl (w.drewN k) size v n xs := h
theorem Sl.below {w w' : World} {size n : Nat} {v : Value} {xs : List Value} (h : Sl w size v n xs) (hb : Below w.heap.size w w') : Sl w' size v n xs :=
  h.keep fun p _ hu => (hb.cell (World.block_lt_of_cell? w p hu)).trans hu

/-- Accesses as cells. -/
def encAccs (t : List Acc) : List Value := t.flatMap fun x => [.int .i64 x.1, .bool x.2]
theorem encAccs_length (t : List Acc) : (encAccs t).length = t.length * 2 := by
  induction t with
  | nil => rfl
  | cons x t ih => simp only [encAccs, List.flatMap_cons, List.length_append, List.length_cons, List.length_nil] at *; omega
theorem encAccs_append (s t : List Acc) : encAccs (s ++ t) = encAccs s ++ encAccs t := by simp [encAccs]
theorem encAccs_at (t : List Acc) : ∀ (k : Nat) (h : k < t.length), (encAccs t)[k * 2]? = some (.int .i64 t[k].1) ∧ (encAccs t)[k * 2 + 1]? = some (.bool t[k].2) := by
  induction t with
  | nil => intro k h; simp at h
  | cons x t ih =>
    intro k h
    have e : encAccs (x :: t) = .int .i64 x.1 :: .bool x.2 :: encAccs t := rfl
    rw [e]
    cases k with
    | zero => exact ⟨rfl, rfl⟩
    | succ k =>
      have := ih k (by simpa using h)
      rw [show (k + 1) * 2 = k * 2 + 1 + 1 by omega]
      exact this

/-! ### Trace -/
theorem ta_ww (x : Int) (W : World) : (Instr.typeAssert (.iface 91 (.int .i64 x)) 20 91 true).run Try.prog W = .ok (.tuple #[.int .i64 x, .bool true]) W := by kernel_rfl
theorem ta_rw (x : Int) (W : World) : (Instr.typeAssert (.iface 93 (.int .i64 x)) 20 91 true).run Try.prog W = .ok (.tuple #[.int .i64 0, .bool false]) W := by kernel_rfl
theorem ta_rr (x : Int) (W : World) : (Instr.typeAssert (.iface 93 (.int .i64 x)) 20 93 true).run Try.prog W = .ok (.tuple #[.int .i64 x, .bool true]) W := by kernel_rfl
theorem info_acc : (Try.prog.info? 90).map (fun i => (i.zero, i.size, i.bytes)) = some (some (.agg #[.int .i64 0, .bool false]), 2, 16) := by kernel_rfl

theorem encAccs_take_succ (t : List Acc) (k : Nat) (h : k < t.length) : encAccs (t.take (k + 1)) = encAccs (t.take k) ++ [.int .i64 t[k].1, .bool t[k].2] := by
  rw [List.take_succ_eq_append_getElem h, encAccs_append]; rfl

section
variable {L : Nat → Prop} {w : World} {a bw bt : Nat} {vs : List Value} {ws : List Int} {ts : List (List Acc)}

set_option maxRecDepth 100000 in
theorem trace_in (h : ArIn L w a bw bt vs ws ts) (c : Int) (h0 : 0 ≤ c) (h1 : c < ts.length) (hs : (tr ts c).length ≤ 1099511627776) :
    Calls Try.prog 25 #[.pointer (some ⟨a, 0, none⟩), .int .i64 c] w fun e w' => ∃ v, e = .returned v ∧ w'.ownsRow w.heap.size 90 2 v (tr ts c).length (encAccs (tr ts c)) ∧ Below w.heap.size w w' := by
  have hp := Lib.hid (core_ok ⟨bw, bt, vs, h⟩ c h0 h1)
  obtain ⟨i0, hi, hz0, hz1, hz2⟩ := info_parts info_acc
  have c1 := h.c1
  have ct := h.ct (c := c.toNat) (by omega)
  have hl := h.tsl
  have hrow := h.row c.toNat (by omega)
  have htr : ts.getD c.toNat [] = tr ts c := rfl
  rw [htr] at hrow
  clear htr h
  generalize tr ts c = t at *
  generalize vs.getD c.toNat undef = v0 at *
  obtain ⟨hlen, A, cap, rfl, hcap, hcell⟩ := Sl.ofOwn hrow
  have HC := Lib.hid hcell
  clear hcell hrow hlen
  go_enter Try.func25, Try.ntmps25
  go_wp2_with (go_at_call 46; refine hp.out.mono ?_; rintro e w' ⟨rfl, rfl⟩)
  go_loopw [5, 24] (fun out i wr => ∃ k : Nat, k ≤ t.length ∧ i = .int .i64 k ∧ wr.ownsRow w.heap.size 90 2 out (t.take k).length (encAccs (t.take k)) ∧ Below w.heap.size w wr) (fun _ i _ => t.length - (intOf i).toNat)
  case atStart => exact ⟨0, Nat.zero_le _, rfl, World.ownsRow_nil _ _ _ _, Below.refl _ _⟩
  case round =>
    obtain ⟨k, hk, rfl, hown, hb⟩ := hrel
    by_cases hlt : k < t.length
    · obtain ⟨g, off, rfl, hcell⟩ := HC.out (by omega)
      have q0 := hcell k (encAcc t[k]) (by simp [hlt])
      have qb := World.block_lt_of_cell? w _ q0
      have q1 := (hb.cell (p := ⟨g, off + k, none⟩) qb).trans q0
      have HS := Lib.hid (encAccs_take_succ t k hlt)
      have hsz := hb.size
      clear hcell HC q0
      have tl : (t.take k).length = k := List.length_take_of_le hk
      rw [tl] at hown
      have HOWN := Lib.hid hown
      have HB := Lib.hid hb
      clear hown hb tl
      rw [encAcc] at q1
      generalize u5 = out at *
      generalize t[k].1 = x1 at *
      generalize t[k].2 = x2 at *
      cases x2
      · simp only [Bool.false_eq_true, if_false] at q1
        have ta1 := ta_rw x1
        have ta2 := ta_rr x1
        go_wp2_with (first | (at_builtin; refine wpList_append_lies _ rfl (.tmp 45) (.tmp 48) 58 rfl w.heap.size 90 i0 _ 2 16 Try.underlying58 hi hz0 hz1 hz2 rfl (by decide) out _ _ rfl (HOWN.out.alloc (Obj.cells #[.int .i64 x1, .bool false] 90)) ⟨wr.heap.size, 0, none⟩ 1 1 [.int .i64 x1, .bool false] rfl rfl (cell_two_new _ _ _ _) (by intro u hu; simp at hu; rcases hu with rfl | rfl <;> rfl) (by decide) (by simp only [maxLen]; omega) (by omega) (by simp; omega) _ rfl ?_; intro g1 cap1 w1 hown1 hgrow1 hat1 hlt1))
        go_roundw
        case rel =>
          refine ⟨k + 1, by omega, by go_num, ?_, ?_⟩
          · rw [HS.out, List.length_take_of_le (by omega)]
            exact hown1
          · exact (HB.out.alloc hsz _).grown hgrow1 (by simp; omega) (fun b hb => (HOWN.out.lt b hb).1)
        case measure => simp [intOf]; omega
      · simp only [if_true] at q1
        have ta1 := ta_ww x1
        go_wp2_with (first | (at_builtin; refine wpList_append_lies _ rfl (.tmp 34) (.tmp 37) 58 rfl w.heap.size 90 i0 _ 2 16 Try.underlying58 hi hz0 hz1 hz2 rfl (by decide) out _ _ rfl (HOWN.out.alloc (Obj.cells #[.int .i64 x1, .bool true] 90)) ⟨wr.heap.size, 0, none⟩ 1 1 [.int .i64 x1, .bool true] rfl rfl (cell_two_new _ _ _ _) (by intro u hu; simp at hu; rcases hu with rfl | rfl <;> rfl) (by decide) (by simp only [maxLen]; omega) (by omega) (by simp; omega) _ rfl ?_; intro g1 cap1 w1 hown1 hgrow1 hat1 hlt1))
        go_roundw
        case rel =>
          refine ⟨k + 1, by omega, by go_num, ?_, ?_⟩
          · rw [HS.out, List.length_take_of_le (by omega)]
            exact hown1
          · exact (HB.out.alloc hsz _).grown hgrow1 (by simp; omega) (fun b hb => (HOWN.out.lt b hb).1)
        case measure => simp [intOf]; omega
    · go_wp2
      go_ret
      have hkt : t.take k = t := List.take_of_length_le (by omega)
      rw [hkt] at hown
      exact ⟨_, rfl, hown, hb⟩
end
end Go.Proofs.Ytkbajjpdngfhbaa
