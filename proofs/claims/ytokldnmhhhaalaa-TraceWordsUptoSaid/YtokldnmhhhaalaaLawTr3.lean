
/- TraceWords: the plain law, among, shared. -/
import Derived.Test.YtokldnmhhhaalaaLawTr2
namespace Go.Proofs.Ytokldnmhhhaalaa
open Go.RowKit
set_option maxHeartbeats 1000000

theorem Rises.head_of {x y : Int} {ys : List Int} (h : Rises (y :: ys)) (hx : x ∈ y :: ys) (hmin : ∀ z ∈ y :: ys, x ≤ z) : y = x := by
  rcases List.mem_cons.1 hx with e | hx
  · exact e.symm
  · have h1 := (List.pairwise_cons.1 h).1 x hx
    have h2 := hmin y (List.mem_cons_self ..)
    omega
/-- Two rising rows and the row of both. -/
theorem union_len : ∀ (w u v : List Int), Rises w → Rises u → Rises v → (∀ y, y ∈ w ↔ y ∈ u ∨ y ∈ v) →
    u.length ≤ w.length ∧ v.length ≤ w.length ∧ w.length ≤ u.length + v.length ∧ (w.length < u.length + v.length ↔ meetB u v = true)
  | [], u, v, _, _, _, hm => by
    obtain rfl : u = [] := List.eq_nil_iff_forall_not_mem.2 fun y hy => by have := (hm y).2 (.inl hy); cases this
    obtain rfl : v = [] := List.eq_nil_iff_forall_not_mem.2 fun y hy => by have := (hm y).2 (.inr hy); cases this
    simp [meetB]
  | x :: w, u, v, hw, hu, hv, hm => by
    obtain ⟨hx, hw'⟩ := List.pairwise_cons.1 hw
    have hmin : ∀ z, z ∈ x :: w → x ≤ z := fun z hz => by
      rcases List.mem_cons.1 hz with rfl | hz
      · exact Int.le_refl _
      · exact Int.le_of_lt (hx z hz)
    have hxw : x ∉ w := fun h => by have := hx x h; omega
    have tl : ∀ {l : List Int}, Rises (x :: l) → (∀ y, y ∈ l ↔ y ∈ x :: l ∧ y ≠ x) := fun {l} h y => by
      have h1 := (List.pairwise_cons.1 h).1
      constructor
      · intro hy; exact ⟨List.mem_cons_of_mem _ hy, fun e => by have := h1 y hy; omega⟩
      · rintro ⟨hy, hne⟩
        rcases List.mem_cons.1 hy with e | hy
        · exact absurd e hne
        · exact hy
    have hwm : ∀ y, y ∈ w ↔ (y ∈ u ∨ y ∈ v) ∧ y ≠ x := fun y => by
      rw [tl hw y, hm y]
    by_cases hxu : x ∈ u
    · obtain ⟨u', rfl⟩ : ∃ u', u = x :: u' := by
        cases u with
        | nil => cases hxu
        | cons y u' => exact ⟨u', by rw [hu.head_of hxu fun z hz => hmin z ((hm z).2 (.inl hz))]⟩
      obtain ⟨_, hu'⟩ := List.pairwise_cons.1 hu
      by_cases hxv : x ∈ v
      · obtain ⟨v', rfl⟩ : ∃ v', v = x :: v' := by
          cases v with
          | nil => cases hxv
          | cons y v' => exact ⟨v', by rw [hv.head_of hxv fun z hz => hmin z ((hm z).2 (.inr hz))]⟩
        obtain ⟨_, hv'⟩ := List.pairwise_cons.1 hv
        obtain ⟨h1, h2, h3, _⟩ := union_len w u' v' hw' hu' hv' fun y => by
          rw [hwm, tl hu y, tl hv y]
          constructor
          · rintro ⟨h | h, hne⟩
            · exact .inl ⟨h, hne⟩
            · exact .inr ⟨h, hne⟩
          · rintro (⟨h, hne⟩ | ⟨h, hne⟩)
            · exact ⟨.inl h, hne⟩
            · exact ⟨.inr h, hne⟩
        simp only [List.length_cons]
        exact ⟨by omega, by omega, by omega, fun _ => meetB_same _ _ _, fun _ => by omega⟩
      · obtain ⟨h1, h2, h3, h4⟩ := union_len w u' v hw' hu' hv fun y => by
          rw [hwm, tl hu y]
          constructor
          · rintro ⟨h | h, hne⟩
            · exact .inl ⟨h, hne⟩
            · exact .inr h
          · rintro (⟨h, hne⟩ | h)
            · exact ⟨.inl h, hne⟩
            · exact ⟨.inr h, fun e => hxv (e ▸ h)⟩
        have hmm : meetB (x :: u') v = meetB u' v := by
          rw [Bool.eq_iff_iff, meetB_iff, meetB_iff]
          constructor
          · rintro ⟨z, hz, hz2⟩
            rcases List.mem_cons.1 hz with rfl | hz
            · exact absurd hz2 hxv
            · exact ⟨z, hz, hz2⟩
          · rintro ⟨z, hz, hz2⟩; exact ⟨z, List.mem_cons_of_mem _ hz, hz2⟩
        rw [hmm, ← h4]
        simp only [List.length_cons]
        omega
    · have hxv : x ∈ v := by
        rcases (hm x).1 (List.mem_cons_self ..) with h | h
        · exact absurd h hxu
        · exact h
      obtain ⟨v', rfl⟩ : ∃ v', v = x :: v' := by
        cases v with
        | nil => cases hxv
        | cons y v' => exact ⟨v', by rw [hv.head_of hxv fun z hz => hmin z ((hm z).2 (.inr hz))]⟩
      obtain ⟨_, hv'⟩ := List.pairwise_cons.1 hv
      obtain ⟨h1, h2, h3, h4⟩ := union_len w u v' hw' hu hv' fun y => by
        rw [hwm, tl hv y]
        constructor
        · rintro ⟨h | h, hne⟩
          · exact .inl h
          · exact .inr ⟨h, hne⟩
        · rintro (h | ⟨h, hne⟩)
          · exact ⟨.inl h, fun e => hxu (e ▸ h)⟩
          · exact ⟨.inr h, hne⟩
      have hmm : meetB u (x :: v') = meetB u v' := by
        rw [Bool.eq_iff_iff, meetB_iff, meetB_iff]
        constructor
        · rintro ⟨z, hz, hz2⟩
          rcases List.mem_cons.1 hz2 with rfl | hz2
          · exact absurd hz hxu
          · exact ⟨z, hz, hz2⟩
        · rintro ⟨z, hz, hz2⟩; exact ⟨z, hz, List.mem_cons_of_mem _ hz2⟩
      rw [hmm, ← h4]
      simp only [List.length_cons]
      omega

/-- Is x among the first k? -/
theorem among_calls {w : World} {v : Value} (us : List Int) (x : Int) (h : Sl w 1 v us.length (us.map (Value.int .i64))) (hl : us.length ≤ 9223372036854775000) :
    Calls Try.prog 37 #[v, .int .i64 x] w fun e w' => e = .returned (.bool (decide (x ∈ us))) ∧ ∃ d, w' = w.drewN d := by
  obtain ⟨_, A, cap, rfl, hc, h⟩ := h
  have H := Lib.hid h
  clear h
  go_enter Try.func37, Try.ntmps37
  go_wp2
  go_loopw [5] (fun i wr => ∃ k : Nat, k ≤ us.length ∧ i = .int .i64 k ∧ (∀ j, j < k → nth us j ≠ x) ∧ ∃ d, wr = w.drewN d) (fun i _ => us.length - (intOf i).toNat)
  case atStart => exact ⟨0, Nat.zero_le _, rfl, fun j hj => absurd hj (by omega), 0, rfl⟩
  case round =>
    obtain ⟨k, hk, rfl, hn, d, rfl⟩ := hrel
    have HN := Lib.hid hn
    clear hn
    by_cases hlt : k < us.length
    · obtain ⟨g, off, rfl, hcell⟩ := H.out (by omega)
      have q1 := hcell _ _ (ints_at hlt)
      have hin : nth us k ∈ us := nth_mem hlt
      have HIN := Lib.hid hin
      clear hcell hin
      generalize hy : nth us k = y at *
      have HY := Lib.hid hy
      clear hy
      by_cases e : y = x
      · have e1 : (y == x) = true := by simpa using e
        have HF := Lib.hid (show true = decide (x ∈ us) from (decide_eq_true (e ▸ HIN.out)).symm)
        clear e
        go_wp2
        go_ret
        exact ⟨ret_bool HF.out, _, rfl⟩
      · have e1 : (y == x) = false := by simpa using e
        have HP := Lib.hid (show ∀ j, j < k + 1 → nth us j ≠ x from fun j hj => by
          by_cases ej : j = k
          · subst ej; rw [HY.out]; exact e
          · exact HN.out j (by omega))
        clear e
        go_wp2
        go_roundw
        case rel => exact ⟨k + 1, by omega, by go_num, HP.out, _, rfl⟩
        case measure => simp [intOf]; omega
    · have HF := Lib.hid (show false = decide (x ∈ us) from (decide_eq_false fun hx => by
        obtain ⟨j, hj, e⟩ := List.getElem_of_mem hx
        exact HN.out j (by omega) (by rw [nth_eq hj]; exact e)).symm)
      go_wp2
      go_ret
      exact ⟨ret_bool HF.out, _, rfl⟩
theorem shared_calls {w : World} {v v' : Value} (us vs : List Int) (h : Sl w 1 v us.length (us.map (Value.int .i64))) (h' : Sl w 1 v' vs.length (vs.map (Value.int .i64))) (hl : us.length ≤ 9223372036854775000) (hl' : vs.length ≤ 9223372036854775000) :
    Calls Try.prog 38 #[v, v'] w fun e w' => e = .returned (.bool (meetB us vs)) ∧ ∃ d, w' = w.drewN d := by
  have HA := Lib.hid (fun (d : Nat) (x : Int) => among_calls (w := w.drewN d) vs x (h'.drewN d) hl')
  clear h'
  obtain ⟨_, A, cap, rfl, hc, h⟩ := h
  have H := Lib.hid h
  clear h
  go_enter Try.func38, Try.ntmps38
  go_wp2
  go_loopw [5] (fun i wr => ∃ k : Nat, k ≤ us.length ∧ i = .int .i64 k ∧ (∀ j, j < k → ¬ nth us j ∈ vs) ∧ ∃ d, wr = w.drewN d) (fun i _ => us.length - (intOf i).toNat)
  case atStart => exact ⟨0, Nat.zero_le _, rfl, fun j hj => absurd hj (by omega), 0, rfl⟩
  case round =>
    obtain ⟨k, hk, rfl, hn, d, rfl⟩ := hrel
    have HN := Lib.hid hn
    clear hn
    by_cases hlt : k < us.length
    · obtain ⟨g, off, rfl, hcell⟩ := H.out (by omega)
      have q1 := hcell _ _ (ints_at hlt)
      have HIN := Lib.hid (show nth us k ∈ us from nth_mem hlt)
      clear hcell
      generalize hy : nth us k = y at *
      have HY := Lib.hid hy
      clear hy
      obtain ⟨b, hb⟩ : ∃ b, decide (y ∈ vs) = b := ⟨_, rfl⟩
      have HB := Lib.hid hb
      clear hb
      go_wp2_with (fail)
      refine (HA.out _ _).mono ?_
      rintro e w' ⟨he, d2, rfl⟩
      rw [HB.out] at he
      subst he
      cases b
      · have HP := Lib.hid (show ∀ j, j < k + 1 → ¬ nth us j ∈ vs from fun j hj => by
          by_cases ej : j = k
          · subst ej; rw [HY.out]; exact of_decide_eq_false HB.out
          · exact HN.out j (by omega))
        go_wp2
        go_roundw
        case rel => exact ⟨k + 1, by omega, by go_num, HP.out, _, rfl⟩
        case measure => simp [intOf]; omega
      · have HF := Lib.hid (show true = meetB us vs from (meetB_iff.2 ⟨y, HIN.out, of_decide_eq_true HB.out⟩).symm)
        go_wp2
        go_ret
        exact ⟨ret_bool HF.out, _, rfl⟩
    · have HF := Lib.hid (show false = meetB us vs by
        rcases Bool.eq_false_or_eq_true (meetB us vs) with e | e
        · obtain ⟨x, h1, h2⟩ := meetB_iff.1 e
          obtain ⟨j, hj, ej⟩ := List.getElem_of_mem h1
          exact absurd (by rw [nth_eq hj, ej]; exact h2) (HN.out j (by omega))
        · exact e.symm)
      go_wp2
      go_ret
      exact ⟨ret_bool HF.out, _, rfl⟩
end Go.Proofs.Ytokldnmhhhaalaa
