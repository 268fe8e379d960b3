/- check: what bodies tells; the counts of a directory's buckets. -/
import Derived.Test.YtenlffhoinialaaMCkNum
import Derived.Deep.RegionHeldLaw
namespace Go.Proofs.Ytenlffhoinialaa
open Go.RowKit
set_option maxHeartbeats 1000000

def nle (s t : ByteArray) : Bool := Op.bytesLess s.toList t.toList || s.toList == t.toList
def b6 (S : St) (i : Nat) : Bool := (S.dir i && !(S.dat i).toList.isEmpty) || (!S.dir i && decide (0 < S.ne i)) || decide (256 < (S.dat i).size)
def b2 (S : St) (i k : Nat) : Bool := S.enu i k == 1 || (firstIx S (S.enu i k)).isNone
def b5 (S : St) (i k : Nat) : Bool := !(ncheck (S.enm i k) == 0) || (decide (0 < k) && nle (S.enm i k) (S.enm i (k - 1)))
def cnt (S : St) (i k : Nat) (q : Nat) : Nat := ((List.range k).filter fun j => nbucket (S.enm i j) == q).length
def b7 (S : St) (i k : Nat) : Bool := cnt S i k (nbucket (S.enm i k)) == 4
def entAt (S : St) (i k : Nat) : List Fnd := one 2 (S.num i) (S.enm i k) (b2 S i k) ++ one 5 (S.num i) (S.enm i k) (b5 S i k) ++ one 7 (S.num i) nm0 (b7 S i k)
def bodyAt (S : St) (i : Nat) : List Fnd := one 6 (S.num i) nm0 (b6 S i) ++ if S.dir i then (List.range (S.ne i)).flatMap (entAt S i) else []
def bodiesF (S : St) : List Fnd := (List.range S.inodes.length).flatMap (bodyAt S)
theorem entAt_len (S : St) (i k : Nat) : (entAt S i k).length ≤ 3 := by
  unfold entAt
  have := one_len 2 (S.num i) (S.enm i k) (b2 S i k)
  have := one_len 5 (S.num i) (S.enm i k) (b5 S i k)
  have := one_len 7 (S.num i) nm0 (b7 S i k)
  rw [List.length_append, List.length_append]; omega
theorem bodyAt_len (S : St) (hs : S.small) (i : Nat) : (bodyAt S i).length ≤ 3001 := by
  unfold bodyAt
  have h1 := one_len 6 (S.num i) nm0 (b6 S i)
  have h2 := flat_len (entAt_len S i) (S.ne i)
  have h3 := hs.en i
  rw [List.length_append]
  split
  · omega
  · simp; omega
theorem cnt_le (S : St) (i k q : Nat) : cnt S i k q ≤ k := by
  unfold cnt
  have := List.length_filter_le (fun j => nbucket (S.enm i j) == q) (List.range k)
  simpa using this
theorem cnt_zero (S : St) (i q : Nat) : cnt S i 0 q = 0 := rfl
theorem cnt_succ (S : St) (i k q : Nat) : cnt S i (k + 1) q = cnt S i k q + if nbucket (S.enm i k) = q then 1 else 0 := by
  unfold cnt
  rw [List.range_succ, List.filter_append, List.length_append]
  congr 1
  by_cases h : nbucket (S.enm i k) = q
  · simp [h]
  · simp [h]
/-- A directory's eight counts. -/
def cntA (f : Nat → Nat) : Array Value := #[.int .i64 (f 0), .int .i64 (f 1), .int .i64 (f 2), .int .i64 (f 3), .int .i64 (f 4), .int .i64 (f 5), .int .i64 (f 6), .int .i64 (f 7)]
theorem lt8 {q : Nat} (h : q < 8) : q = 0 ∨ q = 1 ∨ q = 2 ∨ q = 3 ∨ q = 4 ∨ q = 5 ∨ q = 6 ∨ q = 7 := by omega
theorem cntA_at (f : Nat → Nat) {q : Nat} (h : q < 8) : (cntA f)[q]? = some (.int .i64 (f q)) := by
  rcases lt8 h with rfl | rfl | rfl | rfl | rfl | rfl | rfl | rfl <;> rfl
theorem cntA_set (f g : Nat → Nat) {q : Nat} (h : q < 8) {v : Int} (hv : v = (g q : Nat)) (hg : ∀ j, j < 8 → j ≠ q → g j = f j) : (cntA f).setIfInBounds q (.int .i64 v) = cntA g := by
  subst hv
  rcases lt8 h with rfl | rfl | rfl | rfl | rfl | rfl | rfl | rfl <;> simp [cntA, hg]
theorem KeepsT.set {w w' : World} (h : KeepsT w w') {g : Nat} (hg : w.heap.size ≤ g) (i : Nat) (u : Value) : KeepsT w (w'.setCell ⟨g, i, none⟩ u) :=
  ⟨by simpa [World.setCell] using h.size, fun k o hk hf => by
    rw [Below.heap_setCell _ _ _ _ (fun e : k = g => by have := heap_lt hk; omega)]
    exact h.block k o hk hf⟩
theorem first_none {w : World} {c sb : Nat} {iv : Value} {ev : Nat → Value} {S : St} (c0 : w.cell? ⟨c, 0, none⟩ = some (.pointer (some ⟨sb, 0, none⟩))) (s0 : w.cell? ⟨sb, 0, none⟩ = some iv) (hI : RowAt w iv S.inodes.length 4 (inoC S ev)) (hn : S.inodes.length ≤ 1000) {num : Int} (h : firstIx S num = none) :
    Calls Try.prog 72 #[.pointer (some ⟨c, 0, none⟩), .int .i64 num] w fun e w' => e = .returned (.pointer none) ∧ w' = w := by
  have := first_calls c0 s0 hI hn num
  rw [h] at this
  exact this
theorem first_some {w : World} {c sb : Nat} {A : Option Addr} {n cap : Nat} {ev : Nat → Value} {S : St} (c0 : w.cell? ⟨c, 0, none⟩ = some (.pointer (some ⟨sb, 0, none⟩))) (s0 : w.cell? ⟨sb, 0, none⟩ = some (.slice A n cap)) (hI : RowAt w (.slice A n cap) S.inodes.length 4 (inoC S ev)) (hn : S.inodes.length ≤ 1000) {num : Int} {i : Nat} (h : firstIx S num = some i) :
    ∃ g off, A = some ⟨g, off, none⟩ ∧ i < S.inodes.length ∧ S.num i = num ∧ Calls Try.prog 72 #[.pointer (some ⟨c, 0, none⟩), .int .i64 num] w fun e w' => e = .returned (.pointer (some ⟨g, off + i * 4, none⟩)) ∧ w' = w := by
  have h2 := h
  unfold firstIx at h2
  rw [List.find?_range_eq_some] at h2
  obtain ⟨h3, h4, _⟩ := h2
  have h4 : i < S.inodes.length := by simpa using h4
  obtain ⟨_, _, g, off, rfl, _⟩ := hI.at_ h4
  have := first_calls c0 s0 hI hn num
  rw [h] at this
  exact ⟨g, off, rfl, h4, by simpa using h3, this⟩
end Go.Proofs.Ytenlffhoinialaa
