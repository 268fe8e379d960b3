
/- An argument that is a slice of strings: what a walk is told of it. -/
import Derived.Test.YtkbajjpdngfhbaaActs
import Derived.SliceStrings
import Derived.SizedLaws
namespace Go.Proofs.Ytkbajjpdngfhbaa
open Go.RowKit Go.ChangeShapes Go.WideShapes Go.Deep

def Strs (w : World) (A : Option Addr) (len cap : Nat) (l : List ByteArray) : Prop :=
  l.length = len ∧ len ≤ cap ∧ cap ≤ maxLen ∧ ∀ k s, l[k]? = some s → ∃ g off, A = some ⟨g, off, none⟩ ∧ w.cell? ⟨g, off + k, none⟩ = some (.string s)
theorem Strs.len_le {w : World} {A : Option Addr} {len cap : Nat} {l : List ByteArray} (h : Strs w A len cap l) : len ≤ 9223372036854775807 := by
  have := h.2.1
  have h2 := h.2.2.1
  unfold maxLen at h2
  omega
theorem Strs.at_ {w wr : World} {A : Option Addr} {len cap : Nat} {l : List ByteArray} (h : Strs w A len cap l) {k : Nat} (hk : k < len) (hb : Below w.heap.size w wr) :
    ∃ g off s, A = some ⟨g, off, none⟩ ∧ l[k]? = some s ∧ wr.cell? ⟨g, off + k, none⟩ = some (.string s) ∧ g < w.heap.size := by
  have hk' : k < l.length := by rw [h.1]; exact hk
  obtain ⟨g, off, hA, hc⟩ := h.2.2.2 k l[k] (List.getElem?_eq_getElem hk')
  have hl := World.block_lt_of_cell? w _ hc
  exact ⟨g, off, l[k], hA, List.getElem?_eq_getElem hk', (hb.cell hl).trans hc, hl⟩
section
variable {H : Type} {enc : TypeId × Value → H} {P : Program} {w : World} {base : Nat} {spare : Nat → Bool} {held : Bool}
theorem open_strs {t e : TypeId} {fuel : Nat} {A : Option Addr} {len cap : Nat} {x : DataW H × List MemPlace} (ht : P.underlying t = some (.slice e)) (he : P.underlying e = some .string) (hc : P.cellsOf e = 1)
    (h : DataW.trod enc P w base spare held fuel t [.slice A len cap] = some x) : ∃ l, Strs w A len cap l ∧ (len = 0 ∨ ∃ rest, x.1 = .slice (strs l) rest) := by
  rcases open_strings ht he hc h with ⟨hcs, _⟩ | ⟨a, l, c, ss, hcs, hb, hl, hm, hss, hx, hcell, _⟩
  · simp at hcs
    obtain ⟨rfl, rfl, rfl⟩ := hcs
    exact ⟨[], ⟨rfl, Nat.le_refl _, Nat.zero_le _, fun k s hs => by simp at hs⟩, .inl rfl⟩
  · simp at hcs
    obtain ⟨rfl, rfl, rfl⟩ := hcs
    have hls : len ≤ ss.length := by rw [hss]; split <;> omega
    refine ⟨ss.take len, ⟨by rw [List.length_take]; omega, hl, hm, fun k s hs => ?_⟩, .inr ⟨_, by rw [hx]⟩⟩
    have hk : k < len := by
      have := (List.getElem?_eq_some_iff.1 hs).1
      rw [List.length_take] at this
      omega
    have hs' : ss[k]? = some s := by rw [List.getElem?_take_of_lt hk] at hs; exact hs
    have h1 := hcell k (by omega)
    have h2 : ss.getD k ByteArray.empty = s := by rw [List.getD_eq_getElem?_getD, hs']; rfl
    rw [h2] at h1
    have hsp : a.spot = none := by
      have h0 := hcell 0 (by omega)
      have hx0 : a.add 0 = a := rfl
      rw [hx0] at h0
      cases hsq : a.spot with
      | none => rfl
      | some q => simp [World.cell?, hsq] at h0; split at h0 <;> simp at h0
    obtain ⟨g, off, sp⟩ := a
    simp only at hsp
    subst hsp
    rw [Addr.add_lit] at h1
    exact ⟨g, off, rfl, h1⟩
theorem weights_strs {e : TypeId} : ∀ {l : List ByteArray} {s : ByteArray}, s ∈ l → s.data.toList.length ∈ DataW.weightsAll (H := H) P e (strs l)
  | t :: l, s, h => by
    show _ ∈ DataW.weightsAll P e (strs (t :: l))
    simp only [strs, List.map_cons, DataW.weightsAll, DataW.weights, List.mem_append, List.mem_singleton]
    rcases List.mem_cons.1 h with rfl | h
    · exact .inl rfl
    · exact .inr (weights_strs h)
theorem sized_strs {ts : List TypeId} {ds : List (DataW H)} (h : (DataW.weightsEach P ts ds).all (· ≤ reachBytes) = true) {j : Nat} {t e : TypeId} {l : List ByteArray} {rest : List (DataW H)} (ht : ts[j]? = some t) (hd : ds[j]? = some (.slice (strs l) rest)) (hu : P.underlying t = some (.slice e)) :
    ∀ s ∈ l, s.size ≤ 1000000000000000000 := by
  intro s hs
  have := List.all_eq_true.1 h _ (DataW.weights_mem_each ht hd s.data.toList.length (by
    simp only [DataW.weights, hu, List.mem_cons, List.mem_append]
    exact .inr (.inl (weights_strs hs))))
  have h1 : s.data.toList.length ≤ reachBytes := by simpa using this
  have h2 : s.data.toList.length = s.size := Array.length_toList
  have := reachBytes_lt
  omega
end
end Go.Proofs.Ytkbajjpdngfhbaa
