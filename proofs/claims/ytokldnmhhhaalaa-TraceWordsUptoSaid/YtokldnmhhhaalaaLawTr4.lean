
/- TraceWords, where what is read is small: the walk. -/
import Derived.Test.YtokldnmhhhaalaaLawTr3
namespace Go.Proofs.Ytokldnmhhhaalaa
open Go.RowKit
set_option maxHeartbeats 1000000

theorem encAccs_app (s t : List Acc) : encAccs (s ++ t) = encAccs s ++ encAccs t := encAccs_append s t
theorem WSt.union {t s : List Acc} {b : Bool} {u v w : List Int} (hu : WSt t b u) (hv : WSt s b v) (hw : WSt (t ++ s) b w) (y : Int) : y ∈ w ↔ y ∈ u ∨ y ∈ v := by
  rw [hw.mem, hu.mem, hv.mem]
  constructor
  · rintro ⟨x, hx, h⟩
    rcases List.mem_append.1 hx with hx | hx
    · exact .inl ⟨x, hx, h⟩
    · exact .inr ⟨x, hx, h⟩
  · rintro (⟨x, hx, h⟩ | ⟨x, hx, h⟩)
    · exact ⟨x, List.mem_append_left _ hx, h⟩
    · exact ⟨x, List.mem_append_right _ hx, h⟩
theorem WSt.sub {t : List Acc} {w x : List Int} (hw : WSt t false w) (hx : WSt t true x) (y : Int) (h : y ∈ x) : y ∈ w := by
  obtain ⟨z, hz, _, e⟩ := (hx.mem y).1 h
  exact (hw.mem y).2 ⟨z, hz, (fun h => by cases h), e⟩

set_option maxRecDepth 100000 in
theorem twords_walk (w : World) {A : Option Addr} {len cap : Nat} {t : List Acc} (hx : Accs w A len cap t) (hl : len ≤ 1048576) {A' : Option Addr} {len' cap' : Nat} {s : List Acc} (hx' : Accs w A' len' cap' s) (hl' : len' ≤ 1048576) :
    Calls Try.prog 10 #[.slice A len cap, .slice A' len' cap'] w fun e w' => e = .returned (.bool true) ∧ Below w.heap.size w w' := by
  obtain ⟨di, dz, hi, hz0, hz1, hz2, hz3⟩ := info_acc2
  have ltl := hx.1
  have lsl := hx'.1
  have HT := Lib.hid (fun (W : World) (hb : Below w.heap.size w W) => hx.sl hb)
  have HS := Lib.hid (fun (W : World) (hb : Below w.heap.size w W) => hx'.sl hb)
  clear hx hx'
  go_enter Try.func10, Try.ntmps10
  go_wp2_with (fail)
  refine (awake23 w).mono ?_
  rintro e w1 ⟨rfl, b⟩
  have B1 := Lib.hid b
  have OWN0 := Lib.hid (show (w1.alloc (.cells #[] 73)).ownsRow w1.heap.size 73 2 (.slice (some ⟨w1.heap.size, 0, none⟩) 0 0) 0 [] from
    ⟨rfl, .inr ⟨w1.heap.size, 0, #[], rfl, Nat.le_refl _, heap_alloc_new w1 _, Nat.le_refl _, Nat.zero_le _, rfl, rfl⟩⟩)
  have RT := Lib.hid (show Reads w1 w1.heap.size 2 A len (encAccs t) by
    have h := HT.out _ B1.out
    rw [ltl] at h
    exact h.reads (by omega))
  clear b
  go_wp2_with (first
    | (at_builtin; refine wpList_append_any _ rfl (.tmp 14) (.tmp 15) 54 rfl w1.heap.size 73 di dz 2 16 Try.underlying54 hi hz0 hz1 hz2 hz3 (by omega) (.slice (some ⟨w1.heap.size, 0, none⟩) 0 0) 0 [] rfl OWN0.out w1.heap.size A len cap (encAccs t) rfl (RT.out.alloc (Nat.le_refl _) _) (accs_one t) (by simp only [maxLen]; omega) (by omega) (by simp) ?_; intro v2 w2 hown2 hg2 hat2
       have BG := Lib.hid (show Below w1.heap.size w1 w2 from ((Below.refl _ _).alloc (Nat.le_refl _) _).grown hg2 (by simp) fun g hg => by
         have : w1.heap.size = g := by simpa [Value.ownBlock] using hg
         omega)
       have OWN2 := Lib.hid hown2
       have HAT2 := Lib.hid hat2
       have RS2 := Lib.hid (show Reads w2 w2.heap.size 2 A' len' (encAccs s) by
         have h := HS.out _ (bel_then B1.out BG.out)
         rw [lsl] at h
         exact h.reads (by omega))
       clear hown2 hg2 hat2 OWN0 RT)
    | (at_builtin; refine wpList_append_any _ rfl (.tmp 17) (.tmp 18) 54 rfl w1.heap.size 73 di dz 2 16 Try.underlying54 hi hz0 hz1 hz2 hz3 (by omega) v2 (0 + len) _ rfl OWN2.out w2.heap.size A' len' cap' (encAccs s) rfl RS2.out (accs_one s) (by simp only [maxLen]; omega) (by omega) BG.out.size ?_; intro v3 w3 hown3 hg3 hat3))
  have B3 := Lib.hid (bel_then B1.out (BG.out.grown hg3 BG.out.size fun g hg => own_geT OWN2.out hg))
  have HB3 := Lib.hid (show Sl w3 2 v3 (t ++ s).length (encAccs (t ++ s)) by
    have h := Sl.ofOwn hown3
    rw [encAccs_app, List.length_append, ltl, lsl]
    simpa using h)
  have LT := Lib.hid (show (t ++ s).length ≤ 2097152 by rw [List.length_append, ltl, lsl]; omega)
  clear hown3 hg3 hat3 OWN2 HAT2 RS2 BG
  refine (twords_calls (HT.out _ B3.out) (by omega)).mono ?_
  rintro e w4 ⟨u4, us, rfl, g, r, b⟩
  have G4 := Lib.hid g
  have R4 := Lib.hid r
  have B34 := Lib.hid b
  have B4 := Lib.hid (bel_then B3.out b)
  clear g r b
  go_wp2_with (fail)
  refine (twords_calls (HS.out _ B4.out) (by omega)).mono ?_
  rintro e w5 ⟨u5, vs, rfl, g, r, b⟩
  have G5 := Lib.hid g
  have R5 := Lib.hid r
  have B45 := Lib.hid b
  have B5 := Lib.hid (bel_then B4.out b)
  clear g r b
  go_wp2_with (fail)
  refine (twords_calls (HB3.out.below (bel_then B34.out B45.out)) (by have := LT.out; omega)).mono ?_
  rintro e w6 ⟨u6, wsx, rfl, g, r, b⟩
  have G6 := Lib.hid g
  have B56 := Lib.hid b
  have B6 := Lib.hid (bel_then B5.out b)
  have S4 := Lib.hid ((R4.out.below B45.out).below b).sl
  have S5 := Lib.hid (R5.out.below b).sl
  have S6 := Lib.hid r.sl
  have HB6 := Lib.hid (HB3.out.below (bel_then (bel_then B34.out B45.out) b))
  obtain ⟨A4, c4, rfl⟩ := slice_form R4.out
  obtain ⟨A5, c5, rfl⟩ := slice_form R5.out
  obtain ⟨A6, c6, rfl⟩ := slice_form r
  have hU := union_len wsx us vs g.up G4.out.up G5.out.up (G4.out.union G5.out g)
  have l4 : us.length ≤ 1048576 := by have := G4.out.len; omega
  have l5 : vs.length ≤ 1048576 := by have := G5.out.len; omega
  have l6 : wsx.length ≤ 2097152 := by have := g.len; have := LT.out; omega
  obtain ⟨h1, h2, h3, h4⟩ := hU
  have H4 := Lib.hid h4
  have i1 : ¬ (us.length : Int) + (vs.length : Int) < (wsx.length : Int) := by omega
  have i2 : ¬ (wsx.length : Int) < (if (us.length : Int) < (vs.length : Int) then (vs.length : Int) else (us.length : Int)) := by split <;> omega
  have i3 : ¬ (wsx.length : Int) < (us.length : Int) := by omega
  have i4 : ¬ (wsx.length : Int) < (vs.length : Int) := by omega
  have HMB := Lib.hid (fun y => (G4.out.union G5.out g) y)
  clear g r b h1 h2 h3 h4 R4 R5 B34 B45 B56 HB3 B3 B4 B5
  by_cases hmx : (us.length : Int) < (vs.length : Int)
  all_goals (
    go_wp2_with (fail)
    clear i1 i2 i3 i4 hmx
    go_loopw [9] (fun i wr => ∃ k : Nat, i = .int .i64 k ∧ k ≤ wsx.length ∧ ∃ d, wr = w6.drewN d) (fun i _ => wsx.length - (intOf i).toNat)
    case atStart => exact ⟨0, rfl, by omega, 0, rfl⟩
    case round =>
      obtain ⟨k, rfl, hk, d, rfl⟩ := hrel
      by_cases hkl : k < wsx.length
      · have hk0 : (0 : Int) ≤ (k : Int) := by omega
        have hk1 : (k : Int) < (wsx.length : Int) := by omega
        obtain ⟨_, A6', c6', e6, _, hc6⟩ := S6.out
        cases e6
        obtain ⟨g6, off6, rfl, hcell⟩ := hc6 (by omega)
        have q1 := hcell _ _ (ints_at hkl)
        have HIN := Lib.hid ((HMB.out _).1 (nth_mem hkl))
        clear hcell hc6
        generalize nth wsx k = y at *
        have A1 := Lib.hid (fun d => among_calls (w := w6.drewN d) us y (S4.out.drewN d) (by omega))
        have A2 := Lib.hid (fun d => among_calls (w := w6.drewN d) vs y (S5.out.drewN d) (by omega))
        obtain ⟨b1, hb1⟩ : ∃ b, decide (y ∈ us) = b := ⟨_, rfl⟩
        obtain ⟨b2, hb2⟩ : ∃ b, decide (y ∈ vs) = b := ⟨_, rfl⟩
        have HC := Lib.hid (show b1 = true ∨ b2 = true by
          rw [← hb1, ← hb2]
          exact HIN.out.imp (fun h => decide_eq_true h) (fun h => decide_eq_true h))
        have HB1 := Lib.hid hb1
        have HB2 := Lib.hid hb2
        clear hb1 hb2
        cases b1
        · have HB2 := Lib.hid (show decide (y ∈ vs) = true by
            rw [HB2.out]; rcases HC.out with h | h
            · cases h
            · exact h)
          go_wp2_with (fail)
          refine (A1.out _).mono ?_
          rintro e w' ⟨he, d1, rfl⟩
          rw [HB1.out] at he
          subst he
          go_wp2_with (fail)
          refine (A2.out _).mono ?_
          rintro e w' ⟨he, d2, rfl⟩
          rw [HB2.out] at he
          subst he
          go_wp2_with (fail)
          go_roundw
          case rel => exact ⟨k + 1, by go_num, by omega, _, rfl⟩
          case measure => simp [intOf]; omega
        · go_wp2_with (fail)
          refine (A1.out _).mono ?_
          rintro e w' ⟨he, d1, rfl⟩
          rw [HB1.out] at he
          subst he
          go_wp2_with (fail)
          go_roundw
          case rel => exact ⟨k + 1, by go_num, by omega, _, rfl⟩
          case measure => simp [intOf]; omega
      · have hk1 : ¬ (k : Int) < (wsx.length : Int) := by omega
        go_wp2_with (fail)
        refine (twrites_calls (HB6.out.below (below_drewN' (Below.refl _ _) d)) (by have := LT.out; omega)).mono ?_
        rintro e w7 ⟨u7, xs, rfl, g, r, b⟩
        have B7 := Lib.hid (bel_then (below_drewN' B6.out d) b)
        have l7 : xs.length ≤ 2097152 := by have := g.len; have := LT.out; omega
        have T4 := Lib.hid ((S4.out.drewN d).below b)
        have T5 := Lib.hid ((S5.out.drewN d).below b)
        have T6 := Lib.hid ((S6.out.drewN d).below b)
        have T7 := Lib.hid r.sl
        have HSUB := Lib.hid (fun y h => G6.out.sub g y h)
        obtain ⟨A7, c7, rfl⟩ := slice_form r
        clear g r b hk1 hkl hk
        go_wp2_with (fail)
        go_loopw [11] (fun i wr => ∃ k : Nat, i = .int .i64 k ∧ k ≤ xs.length ∧ ∃ d, wr = w7.drewN d) (fun i _ => xs.length - (intOf i).toNat)
        case atStart => exact ⟨0, rfl, by omega, 0, rfl⟩
        case round =>
          obtain ⟨k, rfl, hk, d, rfl⟩ := hrel
          by_cases hkl : k < xs.length
          · have hk0 : (0 : Int) ≤ (k : Int) := by omega
            have hk1 : (k : Int) < (xs.length : Int) := by omega
            obtain ⟨_, A7', c7', e7, _, hc7⟩ := T7.out
            cases e7
            obtain ⟨g7, off7, rfl, hcell⟩ := hc7 (by omega)
            have q1 := hcell _ _ (ints_at hkl)
            have HIN := Lib.hid (HSUB.out _ (nth_mem hkl))
            clear hcell hc7
            generalize nth xs k = y at *
            have A1 := Lib.hid (fun d => among_calls (w := w7.drewN d) wsx y (T6.out.drewN d) (by omega))
            go_wp2_with (fail)
            refine (A1.out _).mono ?_
            rintro e w' ⟨he, d1, rfl⟩
            rw [decide_eq_true HIN.out] at he
            subst he
            go_wp2_with (fail)
            go_roundw
            case rel => exact ⟨k + 1, by go_num, by omega, _, rfl⟩
            case measure => simp [intOf]; omega
          · have hk1 : ¬ (k : Int) < (xs.length : Int) := by omega
            have HSH := Lib.hid (shared_calls us vs (T4.out.drewN d) (T5.out.drewN d) (by omega) (by omega))
            obtain ⟨b, hb⟩ : ∃ b, meetB us vs = b := ⟨_, rfl⟩
            have hd : decide ((wsx.length : Int) < (us.length : Int) + (vs.length : Int)) = b := by
              rw [← hb, Bool.eq_iff_iff, decide_eq_true_iff, ← H4.out]
              omega
            have HB := Lib.hid hb
            clear hb
            cases b
            · have hd1 : ¬ (wsx.length : Int) < (us.length : Int) + (vs.length : Int) := of_decide_eq_false hd
              clear hd
              go_wp2_with (go_at_call 19; refine (num_calls _ _).mono ?_; rintro e w' ⟨rfl, rfl⟩)
              refine HSH.out.mono ?_
              rintro e w' ⟨he, d1, rfl⟩
              rw [HB.out] at he
              subst he
              go_wp2_with (go_at_call 19; refine (num_calls _ _).mono ?_; rintro e w' ⟨rfl, rfl⟩)
              go_ret
              exact ⟨rfl, below_drewN' B7.out _⟩
            · have hd1 : (wsx.length : Int) < (us.length : Int) + (vs.length : Int) := of_decide_eq_true hd
              clear hd
              go_wp2_with (go_at_call 19; refine (num_calls _ _).mono ?_; rintro e w' ⟨rfl, rfl⟩)
              refine HSH.out.mono ?_
              rintro e w' ⟨he, d1, rfl⟩
              rw [HB.out] at he
              subst he
              go_wp2_with (go_at_call 19; refine (num_calls _ _).mono ?_; rintro e w' ⟨rfl, rfl⟩)
              go_ret
              exact ⟨rfl, below_drewN' B7.out _⟩)
end Go.Proofs.Ytokldnmhhhaalaa
