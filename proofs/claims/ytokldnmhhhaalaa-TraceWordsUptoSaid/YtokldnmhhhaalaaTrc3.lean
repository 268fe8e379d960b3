
/- trace: Words, Writes, Meet; the reference's Meet; LendAccesss, KeptAccesss, SpoilInts. -/
import Derived.Test.YtokldnmhhhaalaaTrc2
import Derived.Handy
namespace Go.Proofs.Ytokldnmhhhaalaa
open Go.RowKit
set_option maxHeartbeats 1000000

/-- Do two traces meet? -/
def pairB (x y : Acc) : Bool := x.1 == y.1 && (x.2 || y.2)
def meetT (t s : List Acc) : Bool := t.any fun x => s.any fun y => pairB x y
theorem meetT_iff {t s : List Acc} : meetT t s = true ↔ ∃ x ∈ t, ∃ y ∈ s, x.1 = y.1 ∧ (x.2 = true ∨ y.2 = true) := by
  unfold meetT
  rw [List.any_eq_true]
  constructor
  · rintro ⟨x, hx, h⟩
    obtain ⟨y, hy, e⟩ := List.any_eq_true.1 h
    unfold pairB at e
    rw [Bool.and_eq_true, Bool.or_eq_true] at e
    exact ⟨x, hx, y, hy, by simpa using e.1, e.2⟩
  · rintro ⟨x, hx, y, hy, e1, e2⟩
    refine ⟨x, hx, List.any_eq_true.2 ⟨y, hy, ?_⟩⟩
    unfold pairB
    rw [Bool.and_eq_true, Bool.or_eq_true]
    exact ⟨by simpa using e1, e2⟩
theorem meetT_of {t s : List Acc} {u v u' v' : List Int} (h1 : WSt t true u) (h2 : WSt s false v) (h3 : WSt s true u') (h4 : WSt t false v') : (meetB u v || meetB u' v') = meetT t s := by
  rw [Bool.eq_iff_iff, Bool.or_eq_true, meetT_iff, meetB_iff, meetB_iff]
  constructor
  · rintro (⟨a, ha, hb⟩ | ⟨a, ha, hb⟩)
    · obtain ⟨x, hx, hw, rfl⟩ := (h1.mem a).1 ha
      obtain ⟨y, hy, _, e⟩ := (h2.mem _).1 hb
      exact ⟨x, hx, y, hy, e.symm, .inl (hw rfl)⟩
    · obtain ⟨y, hy, hw, rfl⟩ := (h3.mem a).1 ha
      obtain ⟨x, hx, _, e⟩ := (h4.mem _).1 hb
      exact ⟨x, hx, y, hy, e, .inr (hw rfl)⟩
  · rintro ⟨x, hx, y, hy, e, hw | hw⟩
    · exact .inl ⟨x.1, (h1.mem _).2 ⟨x, hx, fun _ => hw, rfl⟩, (h2.mem _).2 ⟨y, hy, (fun h => by cases h), e.symm⟩⟩
    · exact .inr ⟨y.1, (h3.mem _).2 ⟨y, hy, fun _ => hw, rfl⟩, (h4.mem _).2 ⟨x, hx, (fun h => by cases h), e⟩⟩

section
variable {w : World} {v v' : Value} {t s : List Acc}
theorem twords_calls (h : Sl w 2 v t.length (encAccs t)) (hl : t.length ≤ 8796093022208) :
    Calls Try.prog 30 #[v] w fun e w' => ∃ u us, e = .returned u ∧ WSt t false us ∧ IntRow w' w.heap.size u us ∧ Below w.heap.size w w' := by
  have H := Lib.hid (places_calls t v false w h hl)
  clear h
  go_enter Try.func30, Try.ntmps30
  go_wp2_with (fail)
  refine H.out.mono ?_
  rintro e w' ⟨u, us, rfl, h1, h2, h3⟩
  have HH := Lib.hid (show WSt t false us ∧ IntRow w' w.heap.size u us ∧ Below w.heap.size w w' from ⟨h1, h2, h3⟩)
  clear h1 h2 h3 H
  go_wp2_with (fail)
  go_ret
  exact ⟨_, us, rfl, HH.out⟩
theorem twrites_calls (h : Sl w 2 v t.length (encAccs t)) (hl : t.length ≤ 8796093022208) :
    Calls Try.prog 31 #[v] w fun e w' => ∃ u us, e = .returned u ∧ WSt t true us ∧ IntRow w' w.heap.size u us ∧ Below w.heap.size w w' := by
  have H := Lib.hid (places_calls t v true w h hl)
  clear h
  go_enter Try.func31, Try.ntmps31
  go_wp2_with (fail)
  refine H.out.mono ?_
  rintro e w' ⟨u, us, rfl, h1, h2, h3⟩
  have HH := Lib.hid (show WSt t true us ∧ IntRow w' w.heap.size u us ∧ Below w.heap.size w w' from ⟨h1, h2, h3⟩)
  clear h1 h2 h3 H
  go_wp2_with (fail)
  go_ret
  exact ⟨_, us, rfl, HH.out⟩
theorem WSt.len_le {t : List Acc} {b : Bool} {us : List Int} (h : WSt t b us) (hl : t.length ≤ 8796093022208) : us.length ≤ 8796093022208 := Nat.le_trans h.len hl
theorem IntRow.cap_le {w : World} {B : Nat} {u : Value} {us : List Int} (h : IntRow w B u us) : ∀ A n c, u = .slice A n c → c ≤ 9223372036854775807 := by
  obtain ⟨A', cap, rfl, h1, h2, _⟩ := h.form
  intro A n c e
  cases e
  unfold maxLen at h2
  omega
/-- Two rows put together by 'common'. -/
theorem common_rows {w : World} {B B' : Nat} {u u' : Value} {us vs : List Int} (hr : Sl w 1 u us.length (us.map (Value.int .i64))) (hr' : Sl w 1 u' vs.length (vs.map (Value.int .i64))) {W W' : World} (hw : IntRow W B u us) (hw' : IntRow W' B' u' vs) (hu : Rises us) (hv : Rises vs) {b : Bool} (hb : meetB us vs = b) :
    Calls Try.prog 56 #[u, u'] w fun e w' => e = .returned (.bool b) ∧ ∃ d, w' = w.drewN d := by
  subst hb
  exact common_calls us vs u u' w hr hr' hu hv hw.cap_le hw'.cap_le
theorem tmeet_calls (h : Sl w 2 v t.length (encAccs t)) (h' : Sl w 2 v' s.length (encAccs s)) (hl : t.length ≤ 8796093022208) (hl' : s.length ≤ 8796093022208) :
    Calls Try.prog 32 #[v, v'] w fun e w' => e = .returned (.bool (meetT t s)) ∧ Below w.heap.size w w' := by
  have H := Lib.hid h
  have H' := Lib.hid h'
  clear h h'
  go_enter Try.func32, Try.ntmps32
  go_wp2_with (fail)
  refine (twrites_calls H.out hl).mono ?_
  rintro e w1 ⟨u1, us1, rfl, g1, r1, b1⟩
  have R1 := Lib.hid r1
  have B1 := Lib.hid b1
  have G1 := Lib.hid g1
  clear g1 r1 b1
  go_wp2_with (fail)
  refine (twords_calls (H'.out.below B1.out) hl').mono ?_
  rintro e w2 ⟨u2, us2, rfl, g2, r2, b2⟩
  have R2 := Lib.hid r2
  have B2 := Lib.hid b2
  have G2 := Lib.hid g2
  clear g2 r2 b2
  obtain ⟨b, hb⟩ : ∃ b, meetB us1 us2 = b := ⟨_, rfl⟩
  have HB := Lib.hid hb
  go_wp2_with (fail)
  refine (common_rows (R1.out.sl.below B2.out) R2.out.sl R1.out R2.out G1.out.up G2.out.up HB.out).mono ?_
  rintro e w3 ⟨rfl, d3, rfl⟩
  have B3 := Lib.hid (below_drewN' (bel_then B1.out B2.out) d3)
  clear hb
  cases b
  · go_wp2_with (fail)
    refine (twrites_calls (H'.out.below B3.out) hl').mono ?_
    rintro e w4 ⟨u4, us4, rfl, g4, r4, b4⟩
    have R4 := Lib.hid r4
    have B4 := Lib.hid (bel_then B3.out b4)
    have G4 := Lib.hid g4
    clear g4 r4 b4
    go_wp2_with (fail)
    refine (twords_calls (H.out.below B4.out) hl).mono ?_
    rintro e w5 ⟨u5, us5, rfl, g5, r5, b5⟩
    have R5 := Lib.hid r5
    have B5 := Lib.hid b5
    have G5 := Lib.hid g5
    clear g5 r5 b5
    obtain ⟨b, hb⟩ : ∃ b, meetB us4 us5 = b := ⟨_, rfl⟩
    have HB2 := Lib.hid hb
    clear hb
    go_wp2_with (fail)
    refine (common_rows (R4.out.sl.below B5.out) R5.out.sl R4.out R5.out G4.out.up G5.out.up HB2.out).mono ?_
    rintro e w6 ⟨rfl, d6, rfl⟩
    have HF := Lib.hid (show b = meetT t s by have := meetT_of G1.out G2.out G4.out G5.out; rw [HB.out, HB2.out, Bool.false_or] at this; exact this)
    go_wp2_with (fail)
    go_ret
    exact ⟨ret_bool HF.out, below_drewN' (bel_then B4.out B5.out) _⟩
  · have HF := Lib.hid (show true = meetT t s by
      obtain ⟨x, h1, h2⟩ := meetB_iff.1 HB.out
      obtain ⟨y, hy, hw, rfl⟩ := (G1.out.mem x).1 h1
      obtain ⟨z, hz, _, e⟩ := (G2.out.mem _).1 h2
      exact (meetT_iff.2 ⟨y, hy, z, hz, e.symm, .inl (hw rfl)⟩).symm)
    go_wp2_with (fail)
    go_ret
    exact ⟨ret_bool HF.out, B3.out⟩
end

/-- No pair meets so far. -/
def noneTo (t s : List Acc) (k : Nat) : Prop := ∀ i (h : i < t.length), i < k → ∀ j (h' : j < s.length), pairB t[i] s[j] = false
theorem noneTo.end_ {t s : List Acc} (h : noneTo t s t.length) : meetT t s = false := by
  rcases Bool.eq_false_or_eq_true (meetT t s) with e | e
  · unfold meetT at e
    obtain ⟨x, hx, e⟩ := List.any_eq_true.1 e
    obtain ⟨y, hy, e⟩ := List.any_eq_true.1 e
    obtain ⟨i, hi, rfl⟩ := List.getElem_of_mem hx
    obtain ⟨j, hj, rfl⟩ := List.getElem_of_mem hy
    rw [h i hi hi j hj] at e
    cases e
  · exact e
theorem rmeet_calls {w : World} {v v' : Value} (t s : List Acc) (h : Sl w 2 v t.length (encAccs t)) (h' : Sl w 2 v' s.length (encAccs s)) (hl : t.length ≤ 8796093022208) (hl' : s.length ≤ 8796093022208) :
    Calls Try.prog 27 #[v, v'] w fun e w' => e = .returned (.bool (meetT t s)) ∧ ∃ k, w' = w.drewN k := by
  obtain ⟨_, A, cap, rfl, hc, h⟩ := h
  obtain ⟨_, A', cap', rfl, hc', h'⟩ := h'
  have H := Lib.hid h
  have H' := Lib.hid h'
  clear h h'
  go_enter Try.func27, Try.ntmps27
  go_wp2
  go_loopw [5] (fun i wr => ∃ k : Nat, k ≤ t.length ∧ i = .int .i64 k ∧ noneTo t s k ∧ ∃ d, wr = w.drewN d) (fun i _ => t.length - (intOf i).toNat)
  case atStart => exact ⟨0, Nat.zero_le _, rfl, fun i _ hi => absurd hi (by omega), 0, rfl⟩
  case round =>
    obtain ⟨k, hk, rfl, hn, d, rfl⟩ := hrel
    have HN := Lib.hid hn
    clear hn
    by_cases hlt : k < t.length
    · obtain ⟨g, off, rfl, hcell⟩ := H.out (by omega)
      obtain ⟨ea, eb⟩ := encAccs_at t k hlt
      have q1 := hcell _ _ ea
      have q2 : w.cell? ⟨g, off + k * 2 + 1, none⟩ = _ := hcell _ _ eb
      have HX := Lib.hid (show t[k] = (t[k].1, t[k].2) from rfl)
      clear hcell ea eb H
      generalize t[k].1 = x1 at *
      generalize t[k].2 = x2 at *
      go_wp2
      go_loopw [6] (fun i wr => ∃ j : Nat, j ≤ s.length ∧ i = .int .i64 j ∧ (∀ p (h : p < s.length), p < j → pairB (x1, x2) s[p] = false) ∧ ∃ d, wr = w.drewN d) (fun i _ => s.length - (intOf i).toNat)
      case atStart => exact ⟨0, Nat.zero_le _, rfl, fun p _ hp => absurd hp (by omega), _, rfl⟩
      case round =>
        obtain ⟨j, hj, rfl, hm, d2, rfl⟩ := hrel
        have HM := Lib.hid hm
        clear hm
        by_cases hlt2 : j < s.length
        · obtain ⟨g', off', rfl, hcell'⟩ := H'.out (by omega)
          obtain ⟨ea', eb'⟩ := encAccs_at s j hlt2
          have q3 := hcell' _ _ ea'
          have q4 : w.cell? ⟨g', off' + j * 2 + 1, none⟩ = _ := hcell' _ _ eb'
          have HY := Lib.hid (show s[j] = (s[j].1, s[j].2) from rfl)
          clear hcell' ea' eb' H'
          generalize s[j].1 = y1 at *
          generalize s[j].2 = y2 at *
          by_cases e : x1 = y1 ∧ (x2 = true ∨ y2 = true)
          · obtain ⟨rfl, ew⟩ := e
            have HT := Lib.hid (show true = meetT t s from (meetT_iff.2 ⟨t[k], List.getElem_mem hlt, s[j], List.getElem_mem hlt2, by rw [HX.out, HY.out], by rw [HX.out, HY.out]; exact ew⟩).symm)
            have ew2 : x2 = true ∨ (x2 = false ∧ y2 = true) := by cases x2 <;> simp_all
            clear ew
            rcases ew2 with rfl | ⟨rfl, rfl⟩
            · go_wp2
              go_quiet (fail)
              go_wp2
              go_ret
              exact ⟨ret_bool HT.out, _, World.drewN_drewN _ _ _⟩
            · go_wp2
              go_quiet (fail)
              go_wp2
              go_ret
              exact ⟨ret_bool HT.out, _, World.drewN_drewN _ _ _⟩
          · have HP := Lib.hid (show ∀ p (h : p < s.length), p < j + 1 → pairB (x1, x2) s[p] = false from fun p hp hpj => by
              by_cases ep : p = j
              · subst ep
                rw [HY.out]
                unfold pairB
                rcases Bool.eq_false_or_eq_true ((x1 == y1) && (x2 || y2)) with h | h
                · rw [Bool.and_eq_true, Bool.or_eq_true] at h
                  exact absurd ⟨by simpa using h.1, h.2⟩ e
                · exact h
              · exact HM.out p hp (by omega))
            have hcase : ((x1 == y1) = false) ∨ ((x1 == y1) = true ∧ x2 = false ∧ y2 = false) := by
              by_cases e1 : x1 = y1
              · right
                refine ⟨by simpa using e1, ?_, ?_⟩
                · cases x2
                  · rfl
                  · exact absurd ⟨e1, .inl rfl⟩ e
                · cases y2
                  · rfl
                  · exact absurd ⟨e1, .inr rfl⟩ e
              · left; simpa using e1
            clear e
            rcases hcase with e1 | ⟨e1, rfl, rfl⟩
            · go_wp2
              go_quiet (fail)
              go_wp2
              go_roundw
              case rel => exact ⟨j + 1, by omega, by go_num, HP.out, _, rfl⟩
              case measure => simp [intOf]; omega
            · go_wp2
              go_quiet (fail)
              go_wp2
              go_roundw
              case rel => exact ⟨j + 1, by omega, by go_num, HP.out, _, rfl⟩
              case measure => simp [intOf]; omega
        · obtain rfl : j = s.length := by omega
          have HP := Lib.hid (show noneTo t s (k + 1) from fun p hp hpk q hq => by
            by_cases ep : p = k
            · subst ep; rw [HX.out]; exact HM.out q hq hq
            · exact HN.out p hp (by omega) q hq)
          go_wp2
          go_roundw
          case rel => exact ⟨k + 1, by omega, by go_num, HP.out, _, rfl⟩
          case measure => simp [intOf]; omega
    · obtain rfl : k = t.length := by omega
      have HT := Lib.hid (show false = meetT t s from HN.out.end_.symm)
      go_wp2
      go_ret
      exact ⟨ret_bool HT.out, _, rfl⟩

theorem spoil_anyL {w : World} {base k : Nat} {xs : List Int} {v : Value} (h : w.ownsRow base 3 1 v k (xs.map (Value.int .i64))) (hk : k ≤ 8796093022208) :
    Calls Try.prog 35 #[v] w fun e w' => e = .returned (.tuple #[]) ∧ Keeps (fun b => v.ownBlock ≠ some b) w w' := by
  have hlen := h.1
  rcases h.2 with ⟨rfl, rfl⟩ | ⟨g, cap, cur, rfl, hb, hg, hnc, hcm, hcs, htake⟩
  · clear h
    go_enter Try.func35, Try.ntmps35
    go_wp2
    go_loopw [2] (fun i wr => i = .int .i64 0 ∧ wr = w) (fun _ _ => 0)
    case atStart => exact ⟨rfl, rfl⟩
    case round =>
      obtain ⟨rfl, rfl⟩ := hrel
      go_wp2
      go_end0
      exact ⟨rfl, Keeps.refl _ _⟩
  · have HO : Own w g k := by
      refine ⟨cur, hg, by omega, fun j hj => ?_⟩
      have hj' : j < xs.length := by simp at hlen; omega
      have : (cur.toList.take (k * 1))[j]? = some (.int .i64 xs[j]) := by rw [htake]; simp [hj']
      rw [List.getElem?_take] at this
      split at this
      · exact ⟨_, by simpa using this⟩
      · cases this
    clear h hg htake hlen
    have HLG := Lib.hid (show ¬ (fun b => (Value.slice (some ⟨g, 0, none⟩) k cap).ownBlock ≠ some b) g by simp [Value.ownBlock])
    generalize (fun b => (Value.slice (some ⟨g, 0, none⟩) k cap).ownBlock ≠ some b) = L at *
    go_enter Try.func35, Try.ntmps35
    go_wp2
    go_loopw [2] (fun i wr => ∃ j : Nat, i = .int .i64 j ∧ j ≤ k ∧ Own wr g k ∧ Keeps L w wr) (fun i _ => k - (intOf i).toNat)
    case atStart => exact ⟨0, rfl, Nat.zero_le _, HO, Keeps.refl _ _⟩
    case round =>
      clear HO
      obtain ⟨j, rfl, hj, ho, hK⟩ := hrel
      have HO := Lib.hid ho
      by_cases hlt : j < k
      · obtain ⟨y, q1⟩ := ho.cell hlt
        have q2 := ho.frozen j
        clear ho
        go_wp2
        go_roundw
        case rel => exact ⟨j + 1, by go_num, by omega, HO.out.set hlt _, hK.setCell HLG.out _⟩
        case measure => simp [intOf]; omega
      · clear ho
        go_wp2
        go_end0
        exact ⟨rfl, hK⟩
end Go.Proofs.Ytokldnmhhhaalaa
