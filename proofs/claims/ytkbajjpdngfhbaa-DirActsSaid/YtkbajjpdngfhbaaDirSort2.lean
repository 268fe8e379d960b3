
/- A row of entries that is sorted: what lies in memory. -/
import Derived.Test.YtkbajjpdngfhbaaDirSort
import Derived.Shelf.SlSortCmp.NoneTotal
import Derived.Deep.AppendLies
namespace Go.Proofs.Ytkbajjpdngfhbaa
open Go.RowKit Go.Shelf Go.Lib Go.Sort
theorem flatE_get : ∀ (D : List Ent) (t : Nat), (D.flatMap encE)[t]? = (D[t / 2]?).bind fun e => (encE e)[t % 2]?
  | [], t => by simp
  | e :: D, t => by
    rw [List.flatMap_cons]
    by_cases h : t < 2
    · have : t = 0 ∨ t = 1 := by omega
      rcases this with rfl | rfl <;> simp [encE]
    · have e1 : t / 2 = (t - 2) / 2 + 1 := by omega
      have e2 : t % 2 = (t - 2) % 2 := by omega
      rw [List.getElem?_append_right (by simp [encE]; omega), e1, List.getElem?_cons_succ, e2, ← flatE_get D (t - 2)]
      simp [encE]
theorem flatE_len (D : List Ent) : (D.flatMap encE).length = D.length * 2 := by
  induction D with
  | nil => rfl
  | cons e D ih => rw [List.flatMap_cons, List.length_append, ih]; simp [encE]; omega
theorem flatK_eq (D : List Ent) : flatK encE 2 D.toArray = (D.flatMap encE).toArray := by
  apply Array.ext
  · rw [size_flatK, List.size_toArray, List.size_toArray, flatE_len]
  · intro t h1 h2
    have h3 : t < D.length * 2 := by rw [size_flatK] at h1; simpa using h1
    have ha := get_flatK encE 2 D.toArray t (by simpa using h3)
    rw [getElem!_pos (flatK encE 2 D.toArray) t h1] at ha
    rw [ha]
    have hb := flatE_get D t
    have hd : t / 2 < D.length := by omega
    rw [List.getElem?_eq_getElem (by rw [flatE_len]; exact h3), List.getElem?_eq_getElem hd] at hb
    have hm : t % 2 < (encE D[t / 2]).length := by simp [encE]; omega
    simp only [Option.bind_some] at hb
    rw [List.getElem?_eq_getElem hm] at hb
    have hb := Option.some.inj hb
    simp only [List.getElem_toArray]
    rw [hb]
    have hx : D.toArray[t / 2]! = D[t / 2] := by simp [hd]
    rw [hx]
    exact getElem!_pos (encE D[t / 2]) (t % 2) hm

theorem holdsE_of {w : World} {base g cap : Nat} {D : List Ent} (h : w.ownsRow base 54 2 (.slice (some ⟨g, 0, none⟩) D.length cap) D.length (D.flatMap encE)) : HoldsK encE 2 w g 0 D.toArray := by
  unfold HoldsK
  rw [flatK_eq]
  intro j hj
  have hj' : j < (D.flatMap encE).length := by simpa using hj
  have hget : (D.flatMap encE)[j]? = some ((D.flatMap encE).toArray[j]!) := by
    rw [getElem!_pos (D.flatMap encE).toArray j hj, List.getElem_toArray, List.getElem?_eq_getElem hj']
  have hc := h.cells (g := g) rfl j _ hget
  have e : (⟨g, 0, none⟩ : Addr).add j = ⟨g, 0 + j, none⟩ := by unfold Addr.add; split <;> simp_all
  rw [e] at hc
  refine ⟨hc, ?_⟩
  rcases h.2 with ⟨hn, _⟩ | ⟨g', cap', cur, hv, _, hh, _⟩
  · cases hn
  · have : g = g' := by simpa [Value.ownBlock] using congrArg Value.ownBlock hv
    subst this
    exact (Blk.frozen (show Blk w g _ cur from hh) _)
theorem sorted_heap {w : World} {g n : Nat} {D' : List Ent} {os : Array Obj} (_ : g < w.heap.size) (k : Nat) (hk : k < w.heap.size) :
    (sortWorldK encE 2 w g 0 n D'.toArray os).heap[k]? = if k = g then (w.heap[k]?).map (onCells (putCells id 0 (flatK encE 2 D'.toArray))) else w.heap[k]? := by
  unfold sortWorldK grow putRowK putRow mapBlock Sort.ahead
  show ((w.heap.modify g (onCells (putCells id 0 (flatK encE 2 D'.toArray)))) ++ os)[k]? = _
  rw [Array.getElem?_append_left (by simpa using hk), Array.getElem?_modify]
  by_cases e : g = k
  · rw [if_pos e, if_pos e.symm]
  · rw [if_neg e, if_neg (fun h => e h.symm)]
theorem sorted_keeps {L : Nat → Prop} {w : World} {g n : Nat} {D' : List Ent} {os : Array Obj} (hg : g < w.heap.size) (hb : Bd L w) (hL : ¬ L g) : Keeps L w (sortWorldK encE 2 w g 0 n D'.toArray os) := by
  refine ⟨rfl, rfl, rfl, ?_, fun k hk => ?_⟩
  · show w.heap.size ≤ ((w.heap.modify g _) ++ os).size
    simp
  · rw [sorted_heap hg k (hb k hk), if_neg (fun e : k = g => hL (e ▸ hk))]
theorem sorted_own {w : World} {base g cap n : Nat} {D D' : List Ent} {os : Array Obj} (h : w.ownsRow base 54 2 (.slice (some ⟨g, 0, none⟩) D.length cap) D.length (D.flatMap encE)) (hl : D'.length = D.length) :
    (sortWorldK encE 2 w g 0 n D'.toArray os).ownsRow base 54 2 (.slice (some ⟨g, 0, none⟩) D'.length cap) D'.length (D'.flatMap encE) := by
  refine ⟨flatE_len D', .inr ?_⟩
  rcases h.2 with ⟨hn, _⟩ | ⟨g', cap', cur, hv, hb, hh, h1, h2, h3, h4⟩
  · cases hn
  · have e1 : g = g' := by simpa [Value.ownBlock] using congrArg Value.ownBlock hv
    subst e1
    have e2 : cap = cap' := by
      injection hv
    subst e2
    have hg : g < w.heap.size := Blk.lt (show Blk w g _ cur from hh)
    refine ⟨g, cap, putCells id 0 (flatK encE 2 D'.toArray) cur, rfl, hb, ?_, by omega, h2, ?_, ?_⟩
    · rw [sorted_heap hg g hg, if_pos rfl, hh]
      rfl
    · simp [putCells, h3]
    · rw [flatK_eq]
      have hle : D'.length * 2 ≤ cap * 2 := Nat.mul_le_mul_right _ (by omega)
      apply List.ext_getElem
      · simp only [List.length_take, Array.length_toList, Array.size_mapIdx, flatE_len, h3, putCells, List.size_toArray]
        omega
      · intro j q1 q2
        rw [flatE_len] at q2
        have hp : (0 ≤ j ∧ j < 0 + (D'.flatMap encE).toArray.size) := by
          refine ⟨Nat.zero_le _, ?_⟩
          rw [List.size_toArray, flatE_len]
          omega
        simp only [List.getElem_take, Array.getElem_toList, putCells, Array.getElem_mapIdx]
        rw [if_pos hp]
        have hq : j - 0 < (D'.flatMap encE).toArray.size := by rw [List.size_toArray, flatE_len]; omega
        rw [getElem!_pos (D'.flatMap encE).toArray (j - 0) hq]
        simp
end Go.Proofs.Ytkbajjpdngfhbaa
