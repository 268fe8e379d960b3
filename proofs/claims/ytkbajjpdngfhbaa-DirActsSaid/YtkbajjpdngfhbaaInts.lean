
/- An argument that is a slice of ints: what a walk is told of it. -/
import Derived.Test.YtkbajjpdngfhbaaBits
import Derived.Deep.Slices
namespace Go.Proofs.Ytkbajjpdngfhbaa
open Go.RowKit

def nth (xs : List Int) (k : Nat) : Int := xs.getD k 0
/-- A slice of ints that came in: its elements; they lie below the heap's end. -/
def Ints (w : World) (A : Option Addr) (len cap : Nat) (xs : List Int) : Prop :=
  xs.length = len ∧ len ≤ cap ∧ cap ≤ maxLen ∧ (∀ x ∈ xs, -9223372036854775808 ≤ x ∧ x ≤ 9223372036854775807) ∧
  (0 < len → ∃ g off, A = some ⟨g, off, none⟩ ∧ ∀ j, j < len → w.cell? ⟨g, off + j, none⟩ = some (.int .i64 (nth xs j)))

theorem wf_range {n : Int} (h : (Lit.int .i64 n).wf = true) : -9223372036854775808 ≤ n ∧ n ≤ 9223372036854775807 := by
  simp [Lit.wf, IntKind.min, IntKind.max, IntKind.signed, IntKind.bits] at h
  omega

theorem Ints.nil_ (w : World) : Ints w none 0 0 [] := ⟨rfl, Nat.le_refl _, Nat.zero_le _, by simp, fun h => absurd h (by omega)⟩
theorem Ints.ofRow {w : World} {x : Addr} {len cap : Nat} {zs : List Int} (hl : len ≤ cap) (hm : cap ≤ maxLen) (hz : zs.length = cap)
    (hcell : ∀ i, i < zs.length → w.cell? (x.add i) = some (.int .i64 (zs.getD i 0))) (hwz : ∀ n ∈ zs, (Lit.int .i64 n).wf = true) : Ints w (some x) len cap (zs.take len) := by
  refine ⟨by simp; omega, hl, hm, fun n hn => wf_range (hwz n (List.mem_of_mem_take hn)), fun h0 => ?_⟩
  have hsp : x.spot = none := by
    have h := hcell 0 (by omega)
    have hx : x.add 0 = x := rfl
    rw [hx] at h
    cases hs : x.spot with
    | none => rfl
    | some s => simp [World.cell?, hs] at h; split at h <;> simp at h
  obtain ⟨g, off, sp⟩ := x
  simp only at hsp
  subst hsp
  refine ⟨g, off, rfl, fun j hj => ?_⟩
  have h := hcell j (by omega)
  rw [Addr.add_lit] at h
  rw [h]
  have : nth (zs.take len) j = zs.getD j 0 := by simp [nth, List.getD, hj]
  rw [this]

theorem Ints.at_ {w wr : World} {A : Option Addr} {len cap k : Nat} {xs : List Int} (h : Ints w A len cap xs) (hk : k < len) (hb : Below w.heap.size w wr) :
    ∃ g off, A = some ⟨g, off, none⟩ ∧ wr.cell? ⟨g, off + k, none⟩ = some (.int .i64 (nth xs k)) ∧ -9223372036854775808 ≤ nth xs k ∧ nth xs k ≤ 9223372036854775807 := by
  obtain ⟨h1, _, _, h3, h4⟩ := h
  obtain ⟨g, off, hA, hc⟩ := h4 (by omega)
  have hc' := hc k hk
  refine ⟨g, off, hA, (hb.cell (World.block_lt_of_cell? w _ hc')).trans hc', ?_⟩
  have hm : nth xs k ∈ xs := by
    unfold nth
    rw [List.getD_eq_getElem?_getD, List.getElem?_eq_getElem (by omega)]
    exact List.getElem_mem _
  exact h3 _ hm
theorem Ints.len_le {w : World} {A : Option Addr} {len cap : Nat} {xs : List Int} (h : Ints w A len cap xs) : len ≤ 9223372036854775807 := by
  have := h.2.1
  have h2 := h.2.2.1
  unfold maxLen at h2
  omega
end Go.Proofs.Ytkbajjpdngfhbaa
