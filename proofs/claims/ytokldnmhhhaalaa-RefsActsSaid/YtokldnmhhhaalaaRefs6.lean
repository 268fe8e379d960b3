
/- refs: Flush. -/
import Derived.Test.YtokldnmhhhaalaaRefs5
namespace Go.Proofs.Ytokldnmhhhaalaa
open Go.RowKit
set_option maxHeartbeats 1000000

/-- What is known, with a flush's mark. -/
def add2 (kn : Int) : Int := kn - kn / 2 % 2 * 2 + 2
theorem or_2 {kn : Int} (h : 0 ≤ kn ∧ kn ≤ 7) : bits .or .i64 kn 2 = add2 kn := by
  have : kn = 0 ∨ kn = 1 ∨ kn = 2 ∨ kn = 3 ∨ kn = 4 ∨ kn = 5 ∨ kn = 6 ∨ kn = 7 := by omega
  rcases this with rfl | rfl | rfl | rfl | rfl | rfl | rfl | rfl <;> decide
/-- The table in the midst of core c's flush: k objects are done. -/
def flushK (T : Int → Int → Int) (n : Nat) (c : Int) (k : Nat) : Int → Int → Int := fun r i =>
  if i < k then (if r = c then 0 else if r = n then T n i + T c i else if r = (n : Int) + 1 then (if T c i = 0 then T ((n : Int) + 1) i else add2 (T ((n : Int) + 1) i)) else T r i) else T r i
theorem flushK_zero (T : Int → Int → Int) (n : Nat) (c r i : Int) (hi : 0 ≤ i) : T r i = flushK T n c 0 r i := by
  unfold flushK
  rw [if_neg (by omega)]
theorem flushK_same {T : Int → Int → Int} {n : Nat} {c : Int} {k : Nat} (hc : 0 ≤ c ∧ c < n) (hz : T c k = 0) (r i : Int) : flushK T n c k r i = flushK T n c (k + 1) r i := by
  unfold flushK
  by_cases h : i < (k : Int)
  · rw [if_pos h, if_pos (show i < ((k + 1 : Nat) : Int) by omega)]
  · rw [if_neg h]
    by_cases h2 : i = k
    · subst h2
      rw [if_pos (by omega)]
      by_cases e1 : r = c
      · subst e1; rw [if_pos rfl, hz]
      · rw [if_neg e1]
        by_cases e2 : r = n
        · subst e2; rw [if_pos rfl, hz]; omega
        · rw [if_neg e2]
          by_cases e3 : r = (n : Int) + 1
          · subst e3; rw [if_pos rfl, if_pos hz]
          · rw [if_neg e3]
    · rw [if_neg (by omega)]
theorem flushK_next {T : Int → Int → Int} {n : Nat} {c : Int} {k : Nat} (hc : 0 ≤ c ∧ c < n) (hz : T c k ≠ 0) (r i : Int) :
    upd2 (upd2 (upd2 (flushK T n c k) c k 0) n k (T n k + T c k)) ((n : Int) + 1) k (add2 (T ((n : Int) + 1) k)) r i = flushK T n c (k + 1) r i := by
  simp only [upd2, flushK]
  by_cases h2 : i = k
  · subst h2
    rw [if_pos (show (k : Int) < ((k + 1 : Nat) : Int) by omega)]
    by_cases e3 : r = (n : Int) + 1
    · subst e3
      rw [if_pos ⟨rfl, rfl⟩, if_neg (by omega), if_neg (by omega), if_pos rfl, if_neg hz]
    · rw [if_neg (fun h => e3 h.1)]
      by_cases e2 : r = n
      · subst e2
        rw [if_pos ⟨rfl, rfl⟩, if_neg (by omega), if_pos rfl]
      · rw [if_neg (fun h => e2 h.1)]
        by_cases e1 : r = c
        · subst e1; rw [if_pos ⟨rfl, rfl⟩, if_pos rfl]
        · rw [if_neg (fun h => e1 h.1), if_neg (by omega), if_neg e1, if_neg e2, if_neg e3]
  · rw [if_neg (fun h => h2 h.2), if_neg (fun h => h2 h.2), if_neg (fun h => h2 h.2)]
    by_cases h : i < (k : Int)
    · rw [if_pos h, if_pos (show i < ((k + 1 : Nat) : Int) by omega)]
    · rw [if_neg h, if_neg (by omega)]
end Go.Proofs.Ytokldnmhhhaalaa
