
/- concourseref23.Words of traces that write nothing; Meet of traces that do not meet; Trace under a predicate. -/
import Derived.Test.YtkbajjpdngfhbaaArP
import Derived.Handy
namespace Go.Proofs.Ytkbajjpdngfhbaa
open Go.RowKit
set_option maxHeartbeats 400000

theorem trace_p {L : Nat → Prop} {w : World} {a : Nat} {ws : List Int} {n m : Nat} {P : List (List Acc) → Prop} (h : ArP L w a ws n m P) (hm : m ≤ 1099511627776) {c : Int} (h0 : 0 ≤ c ∧ c < n) {Q : List Acc → Prop} (hq : ∀ ts, ts.length = n → P ts → Q (tr ts c)) :
    Calls Try.prog 25 #[.pointer (some ⟨a, 0, none⟩), .int .i64 c] w fun e w' => ∃ v t, e = .returned v ∧ Q t ∧ t.length ≤ 1099511627776 ∧ Sl w' 2 v t.length (encAccs t) ∧ Below w.heap.size w w' := by
  obtain ⟨ts, g1, g2, g3, g4⟩ := h
  subst g1
  refine (trace_to g4 (Room.of g2 hm) h0 rfl).mono ?_
  rintro e w' ⟨v, rfl, hown, hB⟩
  exact ⟨v, _, rfl, hq ts rfl g3, (Room.of g2 hm).at_, Sl.ofOwn hown, hB⟩

theorem words_none (t : List Acc) (v : Value) (w : World) (h : Sl w 2 v t.length (encAccs t)) (hl : t.length ≤ 1099511627776) (ht : ∀ x ∈ t, x.2 = false) :
    Calls Try.prog 26 #[v, .bool true] w fun e w' => e = .returned (.slice none 0 0) ∧ ∃ k, w' = w.drewN k := by
  obtain ⟨_, A, cap, rfl, hc, h⟩ := h
  have H := Lib.hid h
  have HT := Lib.hid ht
  clear h ht
  go_enter Try.func26, Try.ntmps26
  go_wp2
  go_loopw [5, 6] (fun o i wr => o = .slice none 0 0 ∧ ∃ k : Nat, k ≤ t.length ∧ i = .int .i64 k ∧ ∃ d, wr = w.drewN d) (fun _ i _ => t.length - (intOf i).toNat)
  case atStart => exact ⟨rfl, 0, Nat.zero_le _, rfl, 0, rfl⟩
  case round =>
    obtain ⟨rfl, k, hk, rfl, d, rfl⟩ := hrel
    by_cases hlt : k < t.length
    · obtain ⟨g, off, rfl, hcell⟩ := H.out (by omega)
      obtain ⟨ea, eb⟩ := encAccs_at t k hlt
      have hf := HT.out _ (List.getElem_mem hlt)
      rw [hf] at eb
      have q1 := hcell _ _ ea
      have q2 : w.cell? ⟨g, off + k * 2 + 1, none⟩ = _ := hcell _ _ eb
      clear hcell ea eb H hf
      generalize t[k].1 = x1 at *
      go_wp2
      go_roundw
      case rel => exact ⟨rfl, k + 1, by omega, by go_num, _, rfl⟩
      case measure => simp [intOf]; omega
    · go_wp2
      go_ret
      exact ⟨rfl, _, rfl⟩

theorem meet_false (t t' : List Acc) (v v' : Value) (w : World) (h : Sl w 2 v t.length (encAccs t)) (h' : Sl w 2 v' t'.length (encAccs t')) (hl : t.length ≤ 1099511627776) (hl' : t'.length ≤ 1099511627776)
    (hno : ∀ x ∈ t, ∀ y ∈ t', x.1 = y.1 → x.2 = false ∧ y.2 = false) :
    Calls Try.prog 24 #[v, v'] w fun e w' => e = .returned (.bool false) ∧ ∃ k, w' = w.drewN k := by
  obtain ⟨_, A, cap, rfl, hc, h⟩ := h
  obtain ⟨_, A', cap', rfl, hc', h'⟩ := h'
  have H := Lib.hid h
  have H' := Lib.hid h'
  have HN := Lib.hid hno
  clear h h' hno
  go_enter Try.func24, Try.ntmps24
  go_wp2
  go_loopw [5] (fun i wr => ∃ k : Nat, k ≤ t.length ∧ i = .int .i64 k ∧ ∃ d, wr = w.drewN d) (fun i _ => t.length - (intOf i).toNat)
  case atStart => exact ⟨0, Nat.zero_le _, rfl, 0, rfl⟩
  case round =>
    obtain ⟨k, hk, rfl, d, rfl⟩ := hrel
    by_cases hlt : k < t.length
    · obtain ⟨g, off, rfl, hcell⟩ := H.out (by omega)
      obtain ⟨ea, eb⟩ := encAccs_at t k hlt
      have hm := HN.out _ (List.getElem_mem hlt)
      have HM := Lib.hid hm
      have q1 := hcell _ _ ea
      have q2 : w.cell? ⟨g, off + k * 2 + 1, none⟩ = _ := hcell _ _ eb
      clear hcell ea eb H hm
      generalize t[k].1 = x1 at *
      generalize t[k].2 = x2 at *
      go_wp2
      go_loopw [6] (fun i wr => ∃ j : Nat, j ≤ t'.length ∧ i = .int .i64 j ∧ ∃ d, wr = w.drewN d) (fun i _ => t'.length - (intOf i).toNat)
      case atStart => exact ⟨0, Nat.zero_le _, rfl, _, rfl⟩
      case round =>
        obtain ⟨j, hj, rfl, d2, rfl⟩ := hrel
        by_cases hlt2 : j < t'.length
        · obtain ⟨g', off', rfl, hcell'⟩ := H'.out (by omega)
          obtain ⟨ea', eb'⟩ := encAccs_at t' j hlt2
          have hm := HM.out _ (List.getElem_mem hlt2)
          have q3 := hcell' _ _ ea'
          have q4 : w.cell? ⟨g', off' + j * 2 + 1, none⟩ = _ := hcell' _ _ eb'
          clear hcell' ea' eb' H' HM
          generalize t'[j].1 = y1 at *
          generalize t'[j].2 = y2 at *
          by_cases e : x1 = y1
          · obtain ⟨rfl, rfl⟩ := hm e
            subst e
            go_wp2
            go_quiet (fail)
            go_wp2
            go_roundw
            case rel => exact ⟨j + 1, by omega, by go_num, _, rfl⟩
            case measure => simp [intOf]; omega
          · have he : (x1 == y1) = false := by simpa using e
            clear hm
            go_wp2
            go_quiet (fail)
            go_wp2
            go_roundw
            case rel => exact ⟨j + 1, by omega, by go_num, _, rfl⟩
            case measure => simp [intOf]; omega
        · go_wp2
          go_roundw
          case rel => exact ⟨k + 1, by omega, by go_num, _, rfl⟩
          case measure => simp [intOf]; omega
    · go_wp2
      go_ret
      exact ⟨rfl, _, rfl⟩
end Go.Proofs.Ytkbajjpdngfhbaa
