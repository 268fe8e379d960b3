
/- law9's model: check, below, at, full; drop; put; the plain law of both. -/
import Derived.Test.YtkbajjpdngfhbaaLawDMv
namespace Go.Proofs.Ytkbajjpdngfhbaa
open Go.RowKit
set_option maxHeartbeats 1000000
set_option maxRecDepth 1000000 in
theorem rcheck_any (s : ByteArray) (w : World) :
    Calls Try.prog 22 #[.string s] w fun e w' => e = .returned (.int .i64 (ncheck s)) ∧ ∃ d, w' = w.drewN d := by
  by_cases h1 : 12 < s.size
  · have h2 : (12 : Int) < (s.size : Int) := by omega
    have H := Lib.hid (show ncheck s = 801 by unfold ncheck; rw [if_pos h1])
    go_enter Try.func22, Try.ntmps22
    go_wp2_with (fail)
    go_ret
    exact ⟨by rw [H.out]; rfl, 0, rfl⟩
  · exact rcheck_calls s (by omega) w
theorem drewN2 (w : World) (a b : Nat) : (w.drewN a).drewN b = w.drewN (a + b) := by simp [World.drewN, Nat.add_assoc]
theorem toList_at (s : ByteArray) (k : Nat) (h : k < s.size) : s.toList.drop k = s[k]'h :: s.toList.drop (k + 1) := by
  have hl : s.toList.length = s.size := by rw [Lib.toList_data]; exact Array.length_toList
  rw [List.drop_eq_getElem_cons (by omega)]
  congr 1
  have e : s.toList = s.data.toList := Lib.toList_data s
  have : ∀ (l : List UInt8) (h1 : k < l.length), l = s.data.toList → l[k] = s[k]'h := by
    intro l h1 e
    subst e
    rfl
  exact this _ _ e
theorem toList_end (s : ByteArray) (k : Nat) (h : s.size ≤ k) : s.toList.drop k = [] := by
  have hl : s.toList.length = s.size := by rw [Lib.toList_data]; exact Array.length_toList
  exact List.drop_eq_nil_of_le (by omega)
theorem nlt_step {s t : ByteArray} {k : Nat} (h : nlt s t = Op.bytesLess (s.toList.drop k) (t.toList.drop k)) (hs : k < s.size) (ht : k < t.size) :
    nlt s t = if (s[k]'hs).toNat = (t[k]'ht).toNat then Op.bytesLess (s.toList.drop (k + 1)) (t.toList.drop (k + 1)) else decide ((s[k]'hs).toNat < (t[k]'ht).toNat) := by
  rw [h, toList_at s k hs, toList_at t k ht]
  rcases hq : Op.bytesLess (s[k] :: s.toList.drop (k + 1)) (t[k] :: t.toList.drop (k + 1)) with _ | _
  · have hn : ¬ (Op.bytesLess (s[k] :: s.toList.drop (k + 1)) (t[k] :: t.toList.drop (k + 1)) = true) := by rw [hq]; exact Bool.false_ne_true
    rw [bl_cons] at hn
    by_cases e : (s[k]'hs).toNat = (t[k]'ht).toNat
    · rw [if_pos e]
      have e2 : s[k]'hs = t[k]'ht := UInt8.toNat_inj.1 e
      exact (Bool.eq_false_iff.2 fun h => hn (.inr ⟨e2, h⟩)).symm
    · rw [if_neg e]
      exact (decide_eq_false fun h => hn (.inl (UInt8.lt_iff_toNat_lt.2 h))).symm
  · rw [bl_cons] at hq
    by_cases e : (s[k]'hs).toNat = (t[k]'ht).toNat
    · rw [if_pos e]
      have e2 : s[k]'hs = t[k]'ht := UInt8.toNat_inj.1 e
      rcases hq with h | ⟨_, h⟩
      · have := UInt8.lt_iff_toNat_lt.1 h; omega
      · exact h.symm
    · rw [if_neg e]
      rcases hq with h | ⟨h, _⟩
      · exact (decide_eq_true (UInt8.lt_iff_toNat_lt.1 h)).symm
      · exact absurd (congrArg UInt8.toNat h) e
theorem nlt_last {s t : ByteArray} {k : Nat} (h : nlt s t = Op.bytesLess (s.toList.drop k) (t.toList.drop k)) (hk1 : k ≤ s.size) (hk2 : k ≤ t.size) (hs : ¬ k < s.size ∨ ¬ k < t.size) : nlt s t = decide ((s.size : Int) < (t.size : Int)) := by
  rw [h]
  by_cases ht : k < t.size
  · have hs1 : ¬ k < s.size := by omega
    rw [toList_end s k (by omega), toList_at t k ht]
    exact (decide_eq_true (by omega)).symm
  · rw [toList_end t k (by omega)]
    have : ¬ ((s.size : Int) < (t.size : Int)) := by omega
    rw [decide_eq_false this]
    cases s.toList.drop k <;> rfl
set_option maxRecDepth 1000000 in
theorem rbelow_calls (s t : ByteArray) (hs : s.size ≤ 100) (ht : t.size ≤ 100) (w : World) :
    Calls Try.prog 63 #[.string s, .string t] w fun e w' => e = .returned (.bool (nlt s t)) ∧ ∃ d, w' = w.drewN d := by
  go_enter Try.func63, Try.ntmps63
  go_wp2_with (fail)
  go_loopw [5] (fun i wr => ∃ (k d : Nat), i = .int .i64 k ∧ k ≤ s.size ∧ k ≤ t.size ∧ nlt s t = Op.bytesLess (s.toList.drop k) (t.toList.drop k) ∧ wr = w.drewN d) (fun i _ => 200 - (intOf i).toNat)
  case atStart => exact ⟨0, 0, rfl, by omega, by omega, rfl, rfl⟩
  case round =>
    obtain ⟨k, d, rfl, hk1, hk2, hn, rfl⟩ := hrel
    have HN := Lib.hid hn
    clear hn
    by_cases hg : k < s.size ∧ k < t.size
    · obtain ⟨g1, g2⟩ := hg
      have g3 : (k : Int) < (s.size : Int) := by omega
      have g4 : (k : Int) < (t.size : Int) := by omega
      have HST := Lib.hid (nlt_step HN.out g1 g2)
      by_cases e : (s[k]'g1).toNat = (t[k]'g2).toNat
      · have HE := Lib.hid (HST.out.trans (if_pos e))
        have e2 : (((s[k]'g1).toNat : Int) != ((t[k]'g2).toNat : Int)) = false := by rw [e]; simp
        clear HST HN
        go_wp2_with (fail)
        go_quiet (fail)
        go_wp2_with (fail)
        go_roundw
        case rel => exact ⟨k + 1, _, by first | rfl | (congr 1; omega), by omega, by omega, HE.out, rfl⟩
        case measure =>
          simp only [intOf]
          omega
      · have HE := Lib.hid (HST.out.trans (if_neg e))
        have e2 : (((s[k]'g1).toNat : Int) != ((t[k]'g2).toNat : Int)) = true := by rw [bne, beq_eq_false_iff_ne.2 (fun h => e (by omega))]; rfl
        clear HST HN
        go_wp2_with (fail)
        go_quiet (fail)
        go_wp2_with (fail)
        go_quiet (fail)
        go_wp2_with (fail)
        go_ret
        refine ⟨?_, _, by rw [drewN2, drewN2]⟩
        rw [HE.out]
        simp
    · have hor : ¬ (k : Int) < (s.size : Int) ∨ ((k : Int) < (s.size : Int) ∧ ¬ (k : Int) < (t.size : Int)) := by omega
      have HE := Lib.hid (nlt_last HN.out hk1 hk2 (by omega))
      clear HN hg
      rcases hor with g1 | ⟨g1, g2⟩
      all_goals (
        go_wp2_with (fail)
        go_ret
        refine ⟨?_, _, rfl⟩
        rw [HE.out]
        simp)
/-- The model's list. -/
def MdAt (w : World) (mb : Nat) (v : Value) (D : List Ent) : Prop := Blk w mb 30 #[v] ∧ Sl w 2 v D.length (D.flatMap encE)
/-- The place of a name. -/
def AtM (D : List Ent) (s : ByteArray) (r : Int) : Prop := (∃ (k : Nat) (e : Ent), r = (k : Int) ∧ D[k]? = some e ∧ e.1 = s) ∨ (r = -1 ∧ ∀ e ∈ D, e.1 ≠ s)
set_option maxRecDepth 1000000 in
theorem mat_calls {w : World} {mb : Nat} {v : Value} {D : List Ent} (h : MdAt w mb v D) (hl : D.length ≤ 1000) (s : ByteArray) :
    Calls Try.prog 40 #[.pointer (some ⟨mb, 0, none⟩), .string s] w fun e w' => (∃ r, e = .returned (.int .i64 r) ∧ AtM D s r) ∧ ∃ d, w' = w.drewN d := by
  obtain ⟨hb, _, A, cap, rfl, hc, hcell⟩ := h
  have c0 : w.cell? ⟨mb, 0, none⟩ = some (.slice A D.length cap) := hb.cell 0
  have H := Lib.hid hcell
  clear hcell hb
  go_enter Try.func40, Try.ntmps40
  go_wp2_with (fail)
  go_loopw [5] (fun i wr => ∃ (k d : Nat), i = .int .i64 k ∧ k ≤ D.length ∧ (∀ e ∈ D.take k, e.1 ≠ s) ∧ wr = w.drewN d) (fun i _ => D.length - (intOf i).toNat)
  case atStart => exact ⟨0, 0, rfl, by omega, (fun e he => by simp at he), rfl⟩
  case round =>
    obtain ⟨k, d, rfl, hk, hn, rfl⟩ := hrel
    by_cases hp : k < D.length
    · have hp1 : (k : Int) < (D.length : Int) := by omega
      obtain ⟨g, off, rfl, hcell⟩ := H.out (by omega)
      obtain ⟨ea, eb⟩ := encE_at D k hp
      have q1 := hcell _ _ ea
      have HD := Lib.hid (List.getElem?_eq_getElem hp)
      have HTK := Lib.hid (show ∀ e ∈ D.take (k + 1), e ∈ D.take k ∨ e = D[k] from fun e he => by
        rw [List.take_succ_eq_append_getElem hp, List.mem_append, List.mem_singleton] at he
        exact he)
      clear hcell ea eb H
      by_cases e : D[k].1 = s
      · have e2 : (D[k].1.toList == s.toList) = true := by rw [e]; simp
        have HE := Lib.hid e
        obtain ⟨s1, hs1⟩ : ∃ s1, D[k].1 = s1 := ⟨_, rfl⟩
        rw [hs1] at e2 q1
        clear hs1 e
        go_wp2_with (fail)
        go_ret
        exact ⟨⟨k, rfl, .inl ⟨k, _, rfl, HD.out, HE.out⟩⟩, _, rfl⟩
      · have e2 : (D[k].1.toList == s.toList) = false := by
          rw [beq_eq_false_iff_ne]
          exact fun h => e (toList_inj h)
        have HE := Lib.hid e
        obtain ⟨s1, hs1⟩ : ∃ s1, D[k].1 = s1 := ⟨_, rfl⟩
        rw [hs1] at e2 q1
        clear hs1 e
        go_wp2_with (fail)
        go_roundw
        case rel =>
          refine ⟨k + 1, d, by first | rfl | (congr 1; omega), by omega, fun e he => ?_, rfl⟩
          rcases HTK.out e he with he | rfl
          · exact hn e he
          · exact HE.out
        case measure =>
          simp only [intOf]
          omega
    · have hp1 : ¬ (k : Int) < (D.length : Int) := by omega
      go_wp2_with (fail)
      go_ret
      refine ⟨⟨-1, rfl, .inr ⟨rfl, ?_⟩⟩, _, rfl⟩
      rw [List.take_of_length_le (by omega)] at hn
      exact hn

/-- How many other names than one a name's bucket has. -/
def fcnt (D : List Ent) (s but : ByteArray) : Nat := (D.filter fun e => !(e.1.toList == but.toList) && (nbucket e.1 == nbucket s)).length
theorem fcnt_step (D : List Ent) (s but : ByteArray) (k : Nat) (h : k < D.length) : fcnt (D.take (k + 1)) s but = fcnt (D.take k) s but + if (!(D[k].1.toList == but.toList) && (nbucket D[k].1 == nbucket s)) = true then 1 else 0 := by
  unfold fcnt
  rw [List.take_succ_eq_append_getElem h, List.filter_append, List.length_append]
  congr 1
  cases hq : (!(D[k].1.toList == but.toList) && (nbucket D[k].1 == nbucket s)) <;> simp [hq]
set_option maxRecDepth 1000000 in
theorem mfull_calls {w : World} {mb : Nat} {v : Value} {D : List Ent} (h : MdAt w mb v D) (hl : D.length ≤ 1000) (hz : ∀ e ∈ D, e.1.size ≤ 12) (s but : ByteArray) (hs : s.size ≤ 12) :
    Calls Try.prog 41 #[.pointer (some ⟨mb, 0, none⟩), .string s, .string but] w fun e w' => e = .returned (.bool (decide (4 ≤ (fcnt D s but : Int)))) ∧ ∃ d, w' = w.drewN d := by
  obtain ⟨hb, _, A, cap, rfl, hc, hcell⟩ := h
  have c0 : w.cell? ⟨mb, 0, none⟩ = some (.slice A D.length cap) := hb.cell 0
  have H := Lib.hid hcell
  have HZ := Lib.hid hz
  clear hcell hb hz
  go_enter Try.func41, Try.ntmps41
  go_wp2_with (fail)
  go_loopw [7, 8] (fun n i wr => ∃ (k d : Nat), i = .int .i64 k ∧ k ≤ D.length ∧ n = .int .i64 (fcnt (D.take k) s but) ∧ fcnt (D.take k) s but ≤ k ∧ wr = w.drewN d) (fun _ i _ => D.length - (intOf i).toNat)
  case atStart => exact ⟨0, 0, rfl, by omega, rfl, by simp [fcnt], rfl⟩
  case round =>
    obtain ⟨k, d, rfl, hk, rfl, hfk, rfl⟩ := hrel
    by_cases hp : k < D.length
    · have hp1 : (k : Int) < (D.length : Int) := by omega
      obtain ⟨g, off, rfl, hcell⟩ := H.out (by omega)
      obtain ⟨ea, eb⟩ := encE_at D k hp
      have q1 := hcell _ _ ea
      have HST := Lib.hid (fcnt_step D s but k hp)
      have hsz := HZ.out _ (List.getElem_mem hp)
      clear hcell ea eb H
      obtain ⟨s1, hs1⟩ : ∃ s1, D[k].1 = s1 := ⟨_, rfl⟩
      rw [hs1] at q1 hsz HST
      clear hs1
      generalize hf1e : fcnt (D.take (k + 1)) s but = f1 at *
      generalize fcnt (D.take k) s but = f0 at *
      have HF1 := Lib.hid hf1e
      clear hf1e
      have HR1 := Lib.hid (fun W => rbucket_calls s1 (by omega) W)
      have HR2 := Lib.hid (fun W => rbucket_calls s (by omega) W)
      by_cases e : (s1.toList == but.toList) = true
      · have hf : f1 = f0 := by rw [HST.out, e]; simp
        subst hf
        clear HST
        go_wp2_with (fail)
        go_roundw
        case rel => exact ⟨k + 1, _, by first | rfl | (congr 1; omega), by omega, by (rw [HF1.out]) <;> (first | rfl | (congr 1; omega)), by rw [HF1.out]; omega, rfl⟩
        case measure =>
          simp only [intOf]
          omega
      · have e := Bool.eq_false_iff.2 e
        by_cases eb : nbucket s1 = nbucket s
        · have hf : f1 = f0 + 1 := by rw [HST.out, e, eb]; simp
          have eb2 : ((nbucket s1 : Int) == (nbucket s : Int)) = true := by rw [eb]; simp
          clear HST
          go_wp2_with (fail)
          refine (HR1.out _).mono ?_
          rintro e w' ⟨rfl, k1, rfl⟩
          go_wp2_with (fail)
          refine (HR2.out _).mono ?_
          rintro e w' ⟨rfl, k2, rfl⟩
          go_wp2_with (fail)
          go_roundw
          case rel => exact ⟨k + 1, _, by first | rfl | (congr 1; omega), by omega, by (rw [HF1.out]) <;> (first | rfl | (congr 1; omega)), by rw [HF1.out]; omega, rfl⟩
          case measure =>
            simp only [intOf]
            omega
        · have hf : f1 = f0 := by rw [HST.out, e, beq_eq_false_iff_ne.2 eb]; simp
          have eb2 : ((nbucket s1 : Int) == (nbucket s : Int)) = false := beq_eq_false_iff_ne.2 (fun h => eb (by omega))
          clear HST
          go_wp2_with (fail)
          refine (HR1.out _).mono ?_
          rintro e w' ⟨rfl, k1, rfl⟩
          go_wp2_with (fail)
          refine (HR2.out _).mono ?_
          rintro e w' ⟨rfl, k2, rfl⟩
          go_wp2_with (fail)
          go_roundw
          case rel => exact ⟨k + 1, _, by first | rfl | (congr 1; omega), by omega, by (rw [HF1.out]) <;> (first | rfl | (congr 1; omega)), by rw [HF1.out]; omega, rfl⟩
          case measure =>
            simp only [intOf]
            omega
    · have hp1 : ¬ (k : Int) < (D.length : Int) := by omega
      rw [List.take_of_length_le (by omega)]
      go_wp2_with (fail)
      go_ret
      exact ⟨rfl, _, rfl⟩
end Go.Proofs.Ytkbajjpdngfhbaa

namespace Go.Proofs.Ytkbajjpdngfhbaa
open Go.RowKit
set_option maxHeartbeats 2000000
attribute [local go_sem ↓] Go.wp_at_zero Go.wp_at_succ
/-- All but the k-th. -/
def dropT (D : List Ent) (k : Int) : Nat → List Ent
  | 0 => []
  | i + 1 => match D[i]? with
    | some e => if (i : Int) = k then dropT D k i else dropT D k i ++ [e]
    | none => dropT D k i
theorem dropT_le (D : List Ent) (k : Int) : ∀ i, (dropT D k i).length ≤ i
  | 0 => by simp [dropT]
  | i + 1 => by
    have := dropT_le D k i
    unfold dropT
    cases D[i]? with
    | none => simp only; omega
    | some e =>
      simp only
      split
      · omega
      · rw [List.length_append, List.length_singleton]; omega
theorem own_far {w : World} {base : Nat} {e : TypeId} {size k : Nat} {v : Value} {xs : List Value} (h : w.ownsRow base e size v k xs) {p : Addr} (hp : v.ownBlock ≠ some p.block) (u : Value) : (w.setCell p u).ownsRow base e size v k xs := by
  refine ⟨h.1, ?_⟩
  rcases h.2 with h2 | ⟨g, cap, cur, hv, hg, hh, rest⟩
  · exact .inl h2
  · refine .inr ⟨g, cap, cur, hv, hg, ?_, rest⟩
    rw [Below.heap_setCell _ _ _ _ (fun e => hp (by rw [hv, ← e]; rfl))]
    exact hh
theorem Sl.cells2 {w : World} {A : Option Addr} {cap : Nat} {D : List Ent} (h : Sl w 2 (.slice A D.length cap) D.length (D.flatMap encE)) {j : Nat} (hj : j < D.length) : ∃ g off, A = some ⟨g, off, none⟩ ∧ w.cell? ⟨g, off + j * 2, none⟩ = some (.string D[j].1) ∧ w.cell? ⟨g, off + j * 2 + 1, none⟩ = some (.int .i64 D[j].2) := by
  obtain ⟨_, A', cap', he, _, hc⟩ := h
  cases he
  obtain ⟨g, off, hA, hcell⟩ := hc (by omega)
  obtain ⟨ea, eb⟩ := encE_at D j hj
  exact ⟨g, off, hA, hcell _ _ ea, hcell _ _ eb⟩
def mOff (w : World) (mb : Nat) : Nat → Prop := fun b => b < w.heap.size ∧ b ≠ mb
set_option maxRecDepth 1000000 in
theorem mdrop_calls {w : World} {mb : Nat} {v : Value} {D : List Ent} (h : MdAt w mb v D) (hl : D.length ≤ 1000) (k : Int) :
    Calls Try.prog 43 #[.pointer (some ⟨mb, 0, none⟩), .int .i64 k] w fun e w' => e = .returned (.tuple #[]) ∧ ∃ v', Blk w' mb 30 #[v'] ∧ w'.ownsRow w.heap.size 54 2 v' (dropT D k D.length).length ((dropT D k D.length).flatMap encE) ∧ Keeps (mOff w mb) w w' := by
  obtain ⟨hb, hsl⟩ := h
  obtain ⟨_, A, cap, rfl, hc, _⟩ := id hsl
  obtain ⟨i0, hi, hz0, hz1, hz2⟩ := info_parts info_ent
  have H := Lib.hid hsl
  have HB := Lib.hid hb
  have hmb := hb.lt
  clear hsl hb
  go_enter Try.func43, Try.ntmps43
  go_wp2_with (fail)
  go_loopw [4, 5] (fun v i wr => ∃ j : Nat, i = .int .i64 j ∧ j ≤ D.length ∧ wr.ownsRow w.heap.size 54 2 v (dropT D k j).length ((dropT D k j).flatMap encE) ∧ Below w.heap.size w wr) (fun _ i _ => D.length - (intOf i).toNat)
  case atStart => exact ⟨0, rfl, by omega, World.ownsRow_nil _ _ _ _, Below.refl _ _⟩
  case round =>
    obtain ⟨j, rfl, hj, hown, hB⟩ := hrel
    have HO := Lib.hid hown
    have HBW := Lib.hid hB
    have c0 : wr.cell? ⟨mb, 0, none⟩ = some (.slice A D.length cap) := (blk_below hB HB.out).cell 0
    have f0 := (blk_below hB HB.out).frozen 0
    have HSW := Lib.hid (H.out.below hB)
    clear hown hB
    by_cases hp : j < D.length
    · have hp1 : (j : Int) < (D.length : Int) := by omega
      have hp0 : (0 : Int) ≤ (j : Int) := by omega
      obtain ⟨g, off, rfl, q1, q2⟩ := HSW.out.cells2 hp
      have HD := Lib.hid (List.getElem?_eq_getElem hp)
      have hlen := dropT_le D k j
      obtain ⟨s1, hs1⟩ : ∃ s1, D[j].1 = s1 := ⟨_, rfl⟩
      obtain ⟨v1, hv1⟩ : ∃ v1 : Int, (D[j].2 : Int) = v1 := ⟨_, rfl⟩
      have HEN := Lib.hid (show encE D[j] = [.string s1, .int .i64 v1] by rw [← hs1, ← hv1]; rfl)
      rw [hs1] at q1
      rw [hv1] at q2
      clear hs1 hv1
      by_cases e : (j : Int) = k
      · have HT := Lib.hid (show dropT D k (j + 1) = dropT D k j by
          conv => lhs; unfold dropT
          rw [HD.out]
          exact if_pos e)
        have e2 : ((j : Int) != k) = false := by rw [e]; simp
        clear HSW HEN
        go_wp2_with (fail)
        go_roundw
        case rel =>
          refine ⟨j + 1, by first | rfl | (congr 1; omega), by omega, ?_, HBW.out⟩
          rw [HT.out]
          exact HO.out
        case measure =>
          simp only [intOf]
          omega
      · have HT := Lib.hid (show dropT D k (j + 1) = dropT D k j ++ [D[j]] by
          conv => lhs; unfold dropT
          rw [HD.out]
          exact if_neg e)
        have e2 : ((j : Int) != k) = true := by rw [bne, beq_eq_false_iff_ne.2 e]; rfl
        have hlen2 : (dropT D k j).length ≤ 1000 := by omega
        have hbase := HBW.out.size
        go_wp2_with (first | (at_builtin; refine wpList_append_lies _ rfl (.tmp 18) (.tmp 26) 28 rfl w.heap.size 54 i0 _ 2 24 Try.underlying28 hi hz0 hz1 hz2 rfl (by decide) u4 _ _ rfl (HO.out.alloc (Obj.cells #[.string s1, .int .i64 v1] 54)) ⟨wr.heap.size, 0, none⟩ 1 1 [.string s1, .int .i64 v1] rfl rfl (World.news_of_block (heap_alloc_new _ _)) (by intro u hu; simp at hu; rcases hu with rfl | rfl <;> rfl) (by decide) (by simp only [maxLen]; omega) (by omega) (by simp; omega) _ rfl ?_; intro g1 cap1 w5 hown hgrow hat hlt2))
        go_roundw
        case rel =>
          refine ⟨j + 1, by first | rfl | (congr 1; omega), by omega, ?_, (HBW.out.alloc hbase _).grown hgrow (by simp; omega) fun g' hg' => own_ge HO.out hg'⟩
          rw [HT.out, List.length_append, List.length_singleton, List.flatMap_append]
          have : [D[j]].flatMap encE = [.string s1, .int .i64 v1] := by rw [← HEN.out]; simp
          rw [this]
          exact hown
        case measure =>
          simp only [intOf]
          omega
    · have hp1 : ¬ (j : Int) < (D.length : Int) := by omega
      have e : j = D.length := by omega
      subst e
      obtain ⟨_, A2, cap2, rfl, _, _⟩ := Sl.ofOwn HO.out
      go_wp2_with (fail)
      go_end0
      have hne : (Value.slice A2 (dropT D k D.length).length cap2).ownBlock ≠ some mb := fun h => by
        have := own_ge HO.out h
        omega
      refine ⟨rfl, _, (blk_below HBW.out HB.out).set_ 0 _, own_far HO.out hne _, ?_⟩
      exact ((Keeps.ofBelow HBW.out).sub fun b hb => hb.1).setCell (fun h => h.2 rfl) _
end Go.Proofs.Ytkbajjpdngfhbaa

namespace Go.Proofs.Ytkbajjpdngfhbaa
open Go.RowKit
set_option maxHeartbeats 2000000
/-- An entry laid in its place: behind i steps. -/
def putT (D : List Ent) (e : Ent) : Nat → List Ent × Bool
  | 0 => ([], false)
  | i + 1 => match D[i]? with
    | some x => if (!(putT D e i).2 && nlt e.1 x.1) = true then ((putT D e i).1 ++ [e] ++ [x], true) else ((putT D e i).1 ++ [x], (putT D e i).2)
    | none => putT D e i
theorem putT_le (D : List Ent) (e : Ent) : ∀ i, (putT D e i).1.length ≤ 2 * i
  | 0 => by simp [putT]
  | i + 1 => by
    have := putT_le D e i
    unfold putT
    cases D[i]? with
    | none => simp only; omega
    | some x =>
      simp only
      split
      · simp only [List.length_append, List.length_singleton]; omega
      · simp only [List.length_append, List.length_singleton]; omega
def putF (D : List Ent) (e : Ent) : List Ent := if (putT D e D.length).2 = true then (putT D e D.length).1 else (putT D e D.length).1 ++ [e]
theorem flatE_app (D : List Ent) (e : Ent) : (D ++ [e]).flatMap encE = D.flatMap encE ++ encE e := by simp
/-- What stands while a list is made anew. -/
structure PS (w W : World) (es : ByteArray) (ev : Int) (v : Value) (l : List Ent) : Prop where
  own : W.ownsRow (w.heap.size + 1) 54 2 v l.length (l.flatMap encE)
  bel : Below w.heap.size w W
  q : Blk W w.heap.size 54 #[.string es, .int .i64 ev]
theorem PS.drewN {w W : World} {es : ByteArray} {ev : Int} {v : Value} {l : List Ent} (h : PS w W es ev v l) (k : Nat) : PS w (W.drewN k) es ev v l := ⟨h.own, ((Keeps.ofBelow h.bel).drewN k).below fun _ h => h, h.q⟩
theorem PS.size {w W : World} {es : ByteArray} {ev : Int} {v : Value} {l : List Ent} (h : PS w W es ev v l) : w.heap.size + 1 ≤ W.heap.size := h.q.lt
theorem PS.grown {w W w5 : World} {es : ByteArray} {ev : Int} {v : Value} {l : List Ent} (h : PS w W es ev v l) {o : Obj} {x : Ent} {g1 cap1 : Nat} {cs : List Value} (hx : encE x = cs) (hown : w5.ownsRow (w.heap.size + 1) 54 2 (.slice (some ⟨g1, 0, none⟩) (l.length + 1) cap1) (l.length + 1) (l.flatMap encE ++ cs)) (hg : (W.alloc o).grownBy w5 v.ownBlock) :
    PS w w5 es ev (.slice (some ⟨g1, 0, none⟩) (l.length + 1) cap1) (l ++ [x]) := by
  subst hx
  refine ⟨?_, (h.bel.alloc h.bel.size _).grown hg (by have := h.size; simp; omega) fun g' hg' => by have := own_ge h.own hg'; omega, blk_grown hg (h.q.alloc o) fun he => ?_⟩
  · rw [flatE_app, List.length_append, List.length_singleton]; exact hown
  · have := own_ge h.own he; omega
set_option maxRecDepth 1000000 in
theorem mput_calls {w : World} {mb : Nat} {v : Value} {D : List Ent} (h : MdAt w mb v D) (hl : D.length ≤ 1000) (hz : ∀ e ∈ D, e.1.size ≤ 12) (e : Ent) (he : e.1.size ≤ 12) :
    Calls Try.prog 42 #[.pointer (some ⟨mb, 0, none⟩), .agg #[.string e.1, .int .i64 e.2]] w fun r w' => r = .returned (.tuple #[]) ∧ ∃ v', Blk w' mb 30 #[v'] ∧ w'.ownsRow (w.heap.size + 1) 54 2 v' (putF D e).length ((putF D e).flatMap encE) ∧ Keeps (mOff w mb) w w' := by
  obtain ⟨hb, hsl⟩ := h
  obtain ⟨_, A, cap, rfl, hc, _⟩ := id hsl
  obtain ⟨i0, hi, hz0, hz1, hz2⟩ := info_parts info_ent
  have H := Lib.hid hsl
  have HB := Lib.hid hb
  have HZ := Lib.hid hz
  have hmb := hb.lt
  clear hsl hb hz
  obtain ⟨es, hes⟩ : ∃ es, e.1 = es := ⟨_, rfl⟩
  obtain ⟨ev, hev⟩ : ∃ ev : Int, (e.2 : Int) = ev := ⟨_, rfl⟩
  have HEE := Lib.hid (show encE e = [.string es, .int .i64 ev] by rw [← hes, ← hev]; rfl)
  rw [hes, hev]
  rw [hes] at he
  have HES := Lib.hid hes
  clear hes hev
  go_enter Try.func42, Try.ntmps42
  go_wp2_with (fail)
  have hPS0 : PS w (w.alloc (.cells #[.string es, .int .i64 ev] 54)) es ev (.slice none 0 0) [] := ⟨World.ownsRow_nil _ _ _ _, below_alloc _ _, Blk.new _ _ _⟩
  generalize w.alloc (.cells #[.string es, .int .i64 ev] 54) = w00 at *
  go_loopw [4, 5, 6] (fun v dn i wr => ∃ (j : Nat), i = .int .i64 j ∧ j ≤ D.length ∧ dn = .bool (putT D e j).2 ∧ PS w wr es ev v (putT D e j).1) (fun _ _ i _ => D.length - (intOf i).toNat)
  case atStart => exact ⟨0, rfl, by omega, rfl, hPS0⟩
  case round =>
    obtain ⟨j, rfl, hj, rfl, hPS⟩ := hrel
    clear hPS0
    have HPS := Lib.hid hPS
    have e0 : wr.cell? ⟨w.heap.size, 0, none⟩ = some (.string es) := hPS.q.cell 0
    have e1 : wr.cell? ⟨w.heap.size, 1, none⟩ = some (.int .i64 ev) := hPS.q.cell 1
    have c0 : wr.cell? ⟨mb, 0, none⟩ = some (.slice A D.length cap) := (blk_below hPS.bel HB.out).cell 0
    have f0 := (blk_below hPS.bel HB.out).frozen 0
    have HSW := Lib.hid (H.out.below hPS.bel)
    clear hPS
    by_cases hp : j < D.length
    · have hp1 : (j : Int) < (D.length : Int) := by omega
      have hp0 : (0 : Int) ≤ (j : Int) := by omega
      have hgl : ∀ W, PS w W es ev u4 (putT D e j).1 → W.cell? ⟨w.heap.size, 0, none⟩ = some (.string es) ∧ W.cell? ⟨w.heap.size, 1, none⟩ = some (.int .i64 ev) := fun W h => ⟨h.q.cell 0, h.q.cell 1⟩
      obtain ⟨g, off, rfl, q1, q2⟩ := HSW.out.cells2 hp
      have HD := Lib.hid (List.getElem?_eq_getElem hp)
      have hlen := putT_le D e j
      have hsx := HZ.out _ (List.getElem_mem hp)
      obtain ⟨s1, hs1⟩ : ∃ s1, D[j].1 = s1 := ⟨_, rfl⟩
      obtain ⟨v1, hv1⟩ : ∃ v1 : Int, (D[j].2 : Int) = v1 := ⟨_, rfl⟩
      have HEN := Lib.hid (show encE D[j] = [.string s1, .int .i64 v1] by rw [← hs1, ← hv1]; rfl)
      have HST := Lib.hid (show putT D e (j + 1) = if (!(putT D e j).2 && nlt es s1) = true then ((putT D e j).1 ++ [e] ++ [D[j]], true) else ((putT D e j).1 ++ [D[j]], (putT D e j).2) by
        conv => lhs; unfold putT
        rw [HD.out, ← hs1, ← HES.out])
      -- the cells of the list and of the model, in any world that lies behind
      have HC := Lib.hid (show ∀ W, Below w.heap.size w W → W.cell? ⟨mb, 0, none⟩ = some (.slice (some ⟨g, off, none⟩) D.length cap) ∧ W.frozen? ⟨mb, 0, none⟩ = false ∧ W.cell? ⟨g, off + j * 2, none⟩ = some (.string s1) ∧ W.cell? ⟨g, off + j * 2 + 1, none⟩ = some (.int .i64 v1) from fun W hW => by
        obtain ⟨g', off', hgg, r1, r2⟩ := (H.out.below hW).cells2 hp
        cases hgg
        exact ⟨(blk_below hW HB.out).cell 0, (blk_below hW HB.out).frozen 0, by rw [← hs1]; exact r1, by rw [← hv1]; exact r2⟩)
      rw [hs1] at q1 hsx
      rw [hv1] at q2
      have HRB := Lib.hid (fun W => rbelow_calls es s1 (by omega) (by omega) W)
      clear hs1 hv1 HSW hsx HD hgl
      generalize hput : putT D e j = st at *
      obtain ⟨l0, dn⟩ := st
      simp only at HST HPS hlen
      have hlen2 : l0.length ≤ 2000 := by omega
      cases dn
      · rcases hlt : nlt es s1 with _ | _
        · have HT := Lib.hid (show putT D e (j + 1) = (l0 ++ [D[j]], false) by rw [HST.out, hlt]; rfl)
          rw [hlt] at HRB
          clear HST
          go_wp2_with (fail)
          go_region_held3 (fun w' => w'.cell? ⟨w.heap.size, 0, none⟩ = some (.string es) ∧ w'.cell? ⟨mb, 0, none⟩ = some (.slice (some ⟨g, off, none⟩) D.length cap) ∧ w'.cell? ⟨g, off + j * 2, none⟩ = some (.string s1)) (first | exact ⟨e0, c0, q1⟩)
            ((first | (go_at_call 63; refine (HRB.out _).mono ?_; rintro e w' ⟨rfl, k4, rfl⟩)))
          have HP2 := Lib.hid (HPS.out.drewN (1 + k4))
          clear HPS e0 e1 c0 f0 q1 q2
          generalize wr.drewN (1 + k4) = W at *
          obtain ⟨c0, f0, q1, q2⟩ := HC.out _ HP2.out.bel
          have hsz := HP2.out.size
          have HO := Lib.hid HP2.out.own
          go_wp2_with (first | (at_builtin; refine wpList_append_lies _ rfl (.tmp 35) (.tmp 43) 28 rfl (w.heap.size + 1) 54 i0 _ 2 24 Try.underlying28 hi hz0 hz1 hz2 rfl (by decide) u4 _ _ rfl (HO.out.alloc (Obj.cells #[.string s1, .int .i64 v1] 54)) ⟨W.heap.size, 0, none⟩ 1 1 [.string s1, .int .i64 v1] rfl rfl (World.news_of_block (heap_alloc_new _ _)) (by intro u hu; simp at hu; rcases hu with rfl | rfl <;> rfl) (by decide) (by simp only [maxLen]; omega) (by omega) (by simp; omega) _ rfl ?_; intro g1 cap1 w5 hown hgrow hat hlt2))
          go_roundw
          case rel => exact ⟨j + 1, by first | rfl | (congr 1; omega), by omega, by rw [HT.out], by rw [HT.out]; exact HP2.out.grown HEN.out hown hgrow⟩
          case measure =>
            simp only [intOf]
            omega
        · have HT := Lib.hid (show putT D e (j + 1) = (l0 ++ [e] ++ [D[j]], true) by rw [HST.out, hlt]; rfl)
          rw [hlt] at HRB
          clear HST
          go_wp2_with (fail)
          go_region_held3 (fun w' => w'.cell? ⟨w.heap.size, 0, none⟩ = some (.string es) ∧ w'.cell? ⟨mb, 0, none⟩ = some (.slice (some ⟨g, off, none⟩) D.length cap) ∧ w'.cell? ⟨g, off + j * 2, none⟩ = some (.string s1)) (first | exact ⟨e0, c0, q1⟩)
            ((first | (go_at_call 63; refine (HRB.out _).mono ?_; rintro e w' ⟨rfl, k4, rfl⟩)))
          have HP2 := Lib.hid (HPS.out.drewN (1 + k4))
          clear HPS e0 e1 c0 f0 q1 q2
          generalize wr.drewN (1 + k4) = W at *
          have e0 : W.cell? ⟨w.heap.size, 0, none⟩ = some (.string es) := HP2.out.q.cell 0
          have e1 : W.cell? ⟨w.heap.size, 1, none⟩ = some (.int .i64 ev) := HP2.out.q.cell 1
          have hsz := HP2.out.size
          have HO := Lib.hid HP2.out.own
          go_wp2_with (first | (at_builtin; refine wpList_append_lies _ rfl (.tmp 31) (.tmp 33) 28 rfl (w.heap.size + 1) 54 i0 _ 2 24 Try.underlying28 hi hz0 hz1 hz2 rfl (by decide) u4 _ _ rfl (HO.out.alloc (Obj.cells #[.string es, .int .i64 ev] 54)) ⟨W.heap.size, 0, none⟩ 1 1 [.string es, .int .i64 ev] rfl rfl (World.news_of_block (heap_alloc_new _ _)) (by intro u hu; simp at hu; rcases hu with rfl | rfl <;> rfl) (by decide) (by simp only [maxLen]; omega) (by omega) (by simp; omega) _ rfl ?_; intro g1 cap1 w5 hown hgrow hat hlt2; have HP3 := Lib.hid (HP2.out.grown HEE.out hown hgrow); obtain ⟨c0, f0, q1, q2⟩ := HC.out _ HP3.out.bel; have hsz3 := HP3.out.size; have HO3 := Lib.hid HP3.out.own; have hlen3 : (l0 ++ [e]).length ≤ 2001 := (by rw [List.length_append, List.length_singleton]; omega); clear hown hgrow hat hlt2) | (at_builtin; refine wpList_append_lies _ rfl (.tmp 35) (.tmp 43) 28 rfl (w.heap.size + 1) 54 i0 _ 2 24 Try.underlying28 hi hz0 hz1 hz2 rfl (by decide) (.slice (some ⟨g1, 0, none⟩) (l0.length + 1) cap1) _ _ rfl (HO3.out.alloc (Obj.cells #[.string s1, .int .i64 v1] 54)) ⟨w5.heap.size, 0, none⟩ 1 1 [.string s1, .int .i64 v1] rfl rfl (World.news_of_block (heap_alloc_new _ _)) (by intro u hu; simp at hu; rcases hu with rfl | rfl <;> rfl) (by decide) (by simp only [maxLen]; omega) (by omega) (by simp; omega) _ rfl ?_; intro g2 cap2 w6 hown2 hgrow2 hat2 hlt3))
          go_roundw
          case rel => exact ⟨j + 1, by first | rfl | (congr 1; omega), by omega, by rw [HT.out], by
            have hz := HP3.out.grown HEN.out hown2 hgrow2
            rw [HT.out]
            simp only [List.length_append, List.length_singleton] at hz
            exact hz⟩
          case measure =>
            simp only [intOf]
            omega
      · have HT := Lib.hid (show putT D e (j + 1) = (l0 ++ [D[j]], true) by rw [HST.out]; rfl)
        clear HST
        go_wp2_with (fail)
        go_quiet (fail)
        have HP2 := Lib.hid (HPS.out.drewN nq)
        clear HPS e0 e1 c0 f0 q1 q2
        generalize wr.drewN nq = W at *
        obtain ⟨c0, f0, q1, q2⟩ := HC.out _ HP2.out.bel
        have hsz := HP2.out.size
        have HO := Lib.hid HP2.out.own
        go_wp2_with (first | (at_builtin; refine wpList_append_lies _ rfl (.tmp 35) (.tmp 43) 28 rfl (w.heap.size + 1) 54 i0 _ 2 24 Try.underlying28 hi hz0 hz1 hz2 rfl (by decide) u4 _ _ rfl (HO.out.alloc (Obj.cells #[.string s1, .int .i64 v1] 54)) ⟨W.heap.size, 0, none⟩ 1 1 [.string s1, .int .i64 v1] rfl rfl (World.news_of_block (heap_alloc_new _ _)) (by intro u hu; simp at hu; rcases hu with rfl | rfl <;> rfl) (by decide) (by simp only [maxLen]; omega) (by omega) (by simp; omega) _ rfl ?_; intro g1 cap1 w5 hown hgrow hat hlt2))
        go_roundw
        case rel => exact ⟨j + 1, by first | rfl | (congr 1; omega), by omega, by rw [HT.out], by rw [HT.out]; exact HP2.out.grown HEN.out hown hgrow⟩
        case measure =>
          simp only [intOf]
          omega
    · have hp1 : ¬ (j : Int) < (D.length : Int) := by omega
      have ej : j = D.length := by omega
      subst ej
      obtain ⟨_, A2, cap2, rfl, _, _⟩ := Sl.ofOwn HPS.out.own
      have hlen := putT_le D e D.length
      have HF := Lib.hid (show putF D e = if (putT D e D.length).2 = true then (putT D e D.length).1 else (putT D e D.length).1 ++ [e] from rfl)
      generalize putT D e D.length = st at *
      obtain ⟨l0, dn⟩ := st
      simp only at HF HPS hlen
      have hlen2 : l0.length ≤ 2000 := by omega
      have hsz := HPS.out.size
      have HO := Lib.hid HPS.out.own
      cases dn
      · have HF2 := Lib.hid (show putF D e = l0 ++ [e] from HF.out)
        go_wp2_with (first | (at_builtin; refine wpList_append_lies _ rfl (.tmp 47) (.tmp 49) 28 rfl (w.heap.size + 1) 54 i0 _ 2 24 Try.underlying28 hi hz0 hz1 hz2 rfl (by decide) (.slice A2 l0.length cap2) _ _ rfl (HO.out.alloc (Obj.cells #[.string es, .int .i64 ev] 54)) ⟨wr.heap.size, 0, none⟩ 1 1 [.string es, .int .i64 ev] rfl rfl (World.news_of_block (heap_alloc_new _ _)) (by intro u hu; simp at hu; rcases hu with rfl | rfl <;> rfl) (by decide) (by simp only [maxLen]; omega) (by omega) (by simp; omega) _ rfl ?_; intro g1 cap1 w5 hown hgrow hat hlt2; have HP3 := Lib.hid (HPS.out.grown HEE.out hown hgrow); have c0 : w5.cell? ⟨mb, 0, none⟩ = some (.slice A D.length cap) := (blk_below HP3.out.bel HB.out).cell 0; have f0 := (blk_below HP3.out.bel HB.out).frozen 0; clear hown hgrow hat hlt2))
        go_end0
        have hne : (Value.slice (some ⟨g1, 0, none⟩) (l0.length + 1) cap1).ownBlock ≠ some mb := fun h => by
          have := own_ge HP3.out.own h
          omega
        rw [HF2.out]
        exact ⟨rfl, _, (blk_below HP3.out.bel HB.out).set_ 0 _, own_far HP3.out.own hne _, ((Keeps.ofBelow HP3.out.bel).sub fun b hb => hb.1).setCell (fun h => h.2 rfl) _⟩
      · have HF2 := Lib.hid (show putF D e = l0 from HF.out)
        go_wp2_with (fail)
        go_end0
        have hne : (Value.slice A2 l0.length cap2).ownBlock ≠ some mb := fun h => by
          have := own_ge HPS.out.own h
          omega
        rw [HF2.out]
        exact ⟨rfl, _, (blk_below HPS.out.bel HB.out).set_ 0 _, own_far HPS.out.own hne _, ((Keeps.ofBelow HPS.out.bel).sub fun b hb => hb.1).setCell (fun h => h.2 rfl) _⟩
end Go.Proofs.Ytkbajjpdngfhbaa

namespace Go.Proofs.Ytkbajjpdngfhbaa
open Go.RowKit
set_option maxHeartbeats 2000000
theorem nlt_asym {s t : ByteArray} (h : nlt s t = true) : nlt t s = false := by
  cases q : nlt t s
  · rfl
  · have := nlt_trans h q
    rw [nlt_irrefl] at this
    cases this
theorem putT_spec (D : List Ent) (e : Ent) : ∀ i, i ≤ D.length →
    ((putT D e i).2 = false ∧ (putT D e i).1 = D.take i ∧ ∀ x ∈ D.take i, nlt e.1 x.1 = false) ∨
    ((putT D e i).2 = true ∧ ∃ p, p < i ∧ (∃ y, D[p]? = some y ∧ nlt e.1 y.1 = true) ∧ (putT D e i).1 = D.take p ++ e :: (D.take i).drop p ∧ ∀ x ∈ D.take p, nlt e.1 x.1 = false)
  | 0, _ => .inl ⟨rfl, rfl, fun x hx => by simp at hx⟩
  | i + 1, hi => by
    have hlt : i < D.length := by omega
    have ht : D.take (i + 1) = D.take i ++ [D[i]] := List.take_succ_eq_append_getElem hlt
    have hu : putT D e (i + 1) = if (!(putT D e i).2 && nlt e.1 D[i].1) = true then ((putT D e i).1 ++ [e] ++ [D[i]], true) else ((putT D e i).1 ++ [D[i]], (putT D e i).2) := by
      conv => lhs; unfold putT
      rw [List.getElem?_eq_getElem hlt]
    rcases putT_spec D e i (by omega) with ⟨h1, h2, h3⟩ | ⟨h1, p, hp, hy, h2, h3⟩
    · by_cases hn : nlt e.1 D[i].1 = true
      · refine .inr ⟨by rw [hu, h1, hn]; rfl, i, by omega, ⟨D[i], List.getElem?_eq_getElem hlt, hn⟩, ?_, h3⟩
        have hd : (D.take (i + 1)).drop i = [D[i]] := by
          rw [ht, List.drop_append_of_le_length (by rw [List.length_take]; omega), List.drop_eq_nil_of_le (by rw [List.length_take]; omega)]
          rfl
        rw [hu, h1, hn, h2, hd]
        simp
      · have hn := Bool.eq_false_iff.2 hn
        refine .inl ⟨by rw [hu, h1, hn]; rfl, by rw [hu, h1, hn, h2, ht]; rfl, fun x hx => ?_⟩
        rw [ht, List.mem_append, List.mem_singleton] at hx
        rcases hx with hx | rfl
        · exact h3 x hx
        · exact hn
    · refine .inr ⟨by rw [hu, h1]; rfl, p, by omega, hy, ?_, h3⟩
      rw [hu, h1, h2, ht]
      simp only [Bool.not_true, Bool.false_and, Bool.false_eq_true, if_false]
      rw [List.drop_append_of_le_length (by rw [List.length_take]; omega)]
      simp
theorem putF_perm (D : List Ent) (e : Ent) : (putF D e).Perm (e :: D) := by
  unfold putF
  rcases putT_spec D e D.length (Nat.le_refl _) with ⟨h1, h2, _⟩ | ⟨h1, p, hp, _, h2, _⟩
  · rw [h1, h2, List.take_length]
    simp only [Bool.false_eq_true, if_false]
    exact List.perm_append_singleton _ _
  · rw [h1, h2, List.take_length]
    simp only [if_true]
    refine List.perm_middle.trans ?_
    rw [List.take_append_drop]
theorem putF_rise {D : List Ent} {e : Ent} (h : Rise D) : Rise (putF D e) := by
  unfold putF
  rcases putT_spec D e D.length (Nat.le_refl _) with ⟨h1, h2, h3⟩ | ⟨h1, p, hp, ⟨y, hy, hn⟩, h2, h3⟩
  · rw [h1, h2, List.take_length] at *
    simp only [Bool.false_eq_true, if_false]
    unfold Rise
    rw [List.pairwise_append]
    refine ⟨h, List.pairwise_singleton _ _, fun x hx z hz => ?_⟩
    rw [List.mem_singleton] at hz
    subst hz
    exact h3 x hx
  · rw [h1, h2, List.take_length]
    simp only [if_true]
    have hsp : D.take p ++ D.drop p = D := List.take_append_drop p D
    have h' : Rise (D.take p ++ D.drop p) := by rw [hsp]; exact h
    unfold Rise at h' ⊢
    rw [List.pairwise_append] at h' ⊢
    have hyd : D.drop p = y :: D.drop (p + 1) := by
      have hpl : p < D.length := hp
      rw [List.drop_eq_getElem_cons hpl]
      rw [List.getElem?_eq_getElem hpl] at hy
      rw [Option.some.inj hy]
    have hal : ∀ z ∈ D.drop p, nlt z.1 e.1 = false := by
      intro z hz
      rw [hyd, List.mem_cons] at hz
      rcases hz with rfl | hz
      · exact nlt_asym hn
      · have hpw := h'.2.1
        rw [hyd, List.pairwise_cons] at hpw
        have := hpw.1 z hz
        cases q : nlt z.1 e.1
        · rfl
        · have := nlt_trans q hn
          rw [hpw.1 z hz] at this
          cases this
    refine ⟨h'.1, ?_, ?_⟩
    · rw [List.pairwise_cons]
      exact ⟨hal, h'.2.1⟩
    · intro x hx z hz
      rw [List.mem_cons] at hz
      rcases hz with rfl | hz
      · exact h3 x hx
      · exact h'.2.2 x hx z hz
theorem dropT_spec (D : List Ent) {k : Nat} (hk : k < D.length) : ∀ i, i ≤ D.length → dropT D (k : Int) i = if i ≤ k then D.take i else D.take k ++ (D.take i).drop (k + 1)
  | 0, _ => by rw [if_pos (by omega)]; rfl
  | i + 1, hi => by
    have hlt : i < D.length := by omega
    have hu : dropT D (k : Int) (i + 1) = if (i : Int) = k then dropT D k i else dropT D k i ++ [D[i]] := by
      conv => lhs; unfold dropT
      rw [List.getElem?_eq_getElem hlt]
    have ht : D.take (i + 1) = D.take i ++ [D[i]] := List.take_succ_eq_append_getElem hlt
    rw [hu, dropT_spec D hk i (by omega)]
    by_cases e : i = k
    · subst e
      rw [if_pos rfl, if_pos (by omega), if_neg (by omega), ht]
      rw [List.drop_eq_nil_of_le (by rw [List.length_append, List.length_take, List.length_singleton]; omega), List.append_nil]
    · rw [if_neg (by omega)]
      by_cases h : i ≤ k
      · rw [if_pos h, if_pos (by omega), ht]
      · rw [if_neg h, if_neg (by omega), ht, List.drop_append_of_le_length (by rw [List.length_take]; omega), List.append_assoc]
theorem dropF (D : List Ent) {k : Nat} (hk : k < D.length) : dropT D (k : Int) D.length = D.take k ++ D.drop (k + 1) := by
  rw [dropT_spec D hk D.length (Nat.le_refl _), if_neg (by omega), List.take_length]
theorem dropF_perm (D : List Ent) {k : Nat} (hk : k < D.length) : D.Perm (D[k] :: dropT D (k : Int) D.length) := by
  rw [dropF D hk]
  conv => lhs; rw [← List.take_append_drop k D, List.drop_eq_getElem_cons hk]
  exact List.perm_middle
theorem dropF_rise {D : List Ent} {k : Nat} (hk : k < D.length) (h : Rise D) : Rise (dropT D (k : Int) D.length) := by
  rw [dropF D hk]
  have h' : Rise (D.take k ++ D.drop k) := by rw [List.take_append_drop]; exact h
  unfold Rise at h' ⊢
  rw [List.pairwise_append] at h' ⊢
  rw [List.drop_eq_getElem_cons hk] at h'
  refine ⟨h'.1, (List.pairwise_cons.1 h'.2.1).2, fun x hx y hy => h'.2.2 x hx y (List.mem_cons_of_mem _ hy)⟩
end Go.Proofs.Ytkbajjpdngfhbaa
