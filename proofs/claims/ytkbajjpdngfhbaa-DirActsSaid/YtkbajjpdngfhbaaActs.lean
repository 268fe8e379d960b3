
/- An argument that is a slice of structs of ints: what a walk is told of it. -/
import Derived.Test.YtkbajjpdngfhbaaInts
import Derived.Deep.Slices
import Derived.Deep.Fields
import Derived.ChangeSame
namespace Go.Proofs.Ytkbajjpdngfhbaa
open Go.RowKit Go.ChangeShapes Go.WideShapes Go.Deep

/-- A slice of structs of nf ints: field j of element i is F i j. -/
def Acts (w : World) (A : Option Addr) (len cap nf : Nat) (F : Nat → Nat → Int) : Prop :=
  len ≤ cap ∧ cap ≤ maxLen ∧ (0 < len → ∃ g off, A = some ⟨g, off, none⟩ ∧ ∀ i j, i < len → j < nf → w.cell? ⟨g, off + (i * nf + j), none⟩ = some (.int .i64 (F i j)) ∧ -9223372036854775808 ≤ F i j ∧ F i j ≤ 9223372036854775807)
theorem Acts.len_le {w : World} {A : Option Addr} {len cap nf : Nat} {F : Nat → Nat → Int} (h : Acts w A len cap nf F) : len ≤ 9223372036854775807 := by
  have := h.1
  have h2 := h.2.1
  unfold maxLen at h2
  omega
theorem Acts.nil_ (w : World) (nf : Nat) : Acts w none 0 0 nf fun _ _ => 0 := ⟨Nat.le_refl _, Nat.zero_le _, fun h => absurd h (by omega)⟩

section
variable {H : Type} {enc : TypeId × Value → H} {P : Program} {w : World} {base : Nat} {spare : Nat → Bool} {held : Bool}
theorem open_int_rows {t e : TypeId} {fs : Array Field} {fuel : Nat} {A : Option Addr} {len cap : Nat} {x : DataW H × List MemPlace} (ht : P.underlying t = some (.slice e)) (he : P.underlying e = some (.struct fs))
    (hone : oneCellFields P fs = true) (hC : P.cellsOf e = fs.size) (h0 : 0 < fs.size) (hint : (fs.toList.map fun f => P.underlying f.type) = List.replicate fs.size (some (.int .i64)))
    (h : DataW.trod enc P w base spare held fuel t [.slice A len cap] = some x) : ∃ F, Acts w A len cap fs.size F := by
  rcases open_slice ht h with ⟨hcs, _⟩ | ⟨a, l, c, m, n, D, Pl, hcs, hb, hl, hm, hmm, hx, hi⟩
  · simp at hcs
    obtain ⟨rfl, rfl, rfl⟩ := hcs
    exact ⟨_, Acts.nil_ w _⟩
  · simp at hcs
    obtain ⟨rfl, rfl, rfl⟩ := hcs
    have hlm : len ≤ m := by rw [hmm]; split <;> omega
    have key : ∀ i j, i < len → j < fs.size → ∃ v : Int, w.cell? (a.add (i * fs.size + j)) = some (.int .i64 v) ∧ (Lit.int .i64 v).wf = true := by
      intro i j hil hj
      obtain ⟨cs', hc, ht'⟩ := hi i (by omega)
      rw [hC] at hc
      obtain ⟨ys, n', _, _, _, hyl, hf⟩ := DataW.trod_struct he ht'
      obtain ⟨_, hcl, hat⟩ := World.cells?_some hc
      have hjf : fs[j]? = some fs[j] := Array.getElem?_eq_getElem hj
      obtain ⟨ho, hk⟩ := hone_of hone j _ hjf
      have hv : cs'[j]? = some (cs'[j]'(by omega)) := List.getElem?_eq_getElem (by omega)
      have h1 := hf j _ hjf
      rw [ho, hk] at h1
      have e1 : (cs'.drop j).take 1 = [cs'[j]'(by omega)] := by
        rw [List.drop_eq_getElem_cons (by omega)]
        rfl
      have hys : ys[j]? = some (ys[j]'(by omega)) := List.getElem?_eq_getElem (by omega)
      rw [e1, hys] at h1
      have hty : P.underlying fs[j].type = some (.int .i64) := by
        have := congrArg (·[j]?) hint
        simpa [hj] using this
      obtain ⟨v, hv1, _, hw⟩ := DataW.trod_int hty h1
      refine ⟨v, ?_, hw⟩
      have := hat j hj
      rw [← Go.Deep.add_add, this, hv]
      simpa using hv1
    have hF : ∃ F : Nat → Nat → Int, ∀ i j, i < len → j < fs.size → w.cell? (a.add (i * fs.size + j)) = some (.int .i64 (F i j)) ∧ (Lit.int .i64 (F i j)).wf = true := by
      refine ⟨fun i j => if hh : i < len ∧ j < fs.size then Classical.choose (key i j hh.1 hh.2) else 0, fun i j hil hj => ?_⟩
      have hd : (if hh : i < len ∧ j < fs.size then Classical.choose (key i j hh.1 hh.2) else 0) = Classical.choose (key i j hil hj) := dif_pos ⟨hil, hj⟩
      simp only [hd]
      exact Classical.choose_spec (key i j hil hj)
    obtain ⟨F, hF⟩ := hF
    refine ⟨F, hl, hm, fun hpos => ?_⟩
    have hsp : a.spot = none := by
      have h := (hF 0 0 hpos h0).1
      have hx : a.add (0 * fs.size + 0) = a := by rw [Nat.zero_mul]; rfl
      rw [hx] at h
      cases hs : a.spot with
      | none => rfl
      | some s => simp [World.cell?, hs] at h; split at h <;> simp at h
    obtain ⟨g, off, sp⟩ := a
    simp only at hsp
    subst hsp
    refine ⟨g, off, rfl, fun i j hil hj => ?_⟩
    obtain ⟨h1, h2⟩ := hF i j hil hj
    rw [Addr.add_lit] at h1
    exact ⟨h1, wf_range h2⟩
end

theorem Acts.at_ {w wr : World} {A : Option Addr} {len cap nf : Nat} {F : Nat → Nat → Int} (h : Acts w A len cap nf F) {k : Nat} (hk : k < len) (hb : Below w.heap.size w wr) :
    ∃ g off, A = some ⟨g, off, none⟩ ∧ ∀ j, j < nf → wr.cell? ⟨g, off + (k * nf + j), none⟩ = some (.int .i64 (F k j)) ∧ -9223372036854775808 ≤ F k j ∧ F k j ≤ 9223372036854775807 := by
  obtain ⟨g, off, hA, hc⟩ := h.2.2 (by omega)
  refine ⟨g, off, hA, fun j hj => ?_⟩
  obtain ⟨h1, h2⟩ := hc k j hk hj
  exact ⟨(hb.cell (World.block_lt_of_cell? w _ h1)).trans h1, h2⟩
end Go.Proofs.Ytkbajjpdngfhbaa
