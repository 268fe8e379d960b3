
/- An argument that is a slice of accesses: what a walk is told of it. -/
import Derived.Test.YtokldnmhhhaalaaRowsIn
import Derived.Test.YtokldnmhhhaalaaArTo
namespace Go.Proofs.Ytokldnmhhhaalaa
open Go.RowKit Go.ChangeShapes Go.WideShapes Go.Deep

def Accs (w : World) (A : Option Addr) (len cap : Nat) (t : List Acc) : Prop :=
  t.length = len ∧ Sl w 2 (.slice A len cap) t.length (encAccs t) ∧ cap ≤ maxLen
theorem encAccs_get (t : List Acc) (j : Nat) (u : Value) (h : (encAccs t)[j]? = some u) : ∃ hk : j / 2 < t.length, u = if j % 2 = 0 then .int .i64 (t[j / 2]).1 else .bool (t[j / 2]).2 := by
  have hl : j < (encAccs t).length := (List.getElem?_eq_some_iff.1 h).1
  rw [encAccs_length] at hl
  have hk : j / 2 < t.length := by omega
  obtain ⟨h1, h2⟩ := encAccs_at t (j / 2) hk
  refine ⟨hk, ?_⟩
  by_cases e : j % 2 = 0
  · rw [if_pos e]
    rw [show j / 2 * 2 = j by omega, h] at h1
    exact Option.some.inj h1
  · rw [if_neg e]
    rw [show j / 2 * 2 + 1 = j by omega, h] at h2
    exact Option.some.inj h2
section
variable {H : Type} {enc : TypeId × Value → H} {P : Program} {w : World} {base : Nat} {spare : Nat → Bool} {held : Bool}
theorem open_accs {t e : TypeId} {fs : Array Field} {fuel : Nat} {A : Option Addr} {len cap : Nat} {x : DataW H × List MemPlace} (ht : P.underlying t = some (.slice e)) (he : P.underlying e = some (.struct fs))
    (hone : oneCellFields P fs = true) (hC : P.cellsOf e = fs.size) (hsz : fs.size = 2) (hint : (fs.toList.map fun f => P.underlying f.type) = [some (.int .i64), some .bool])
    (h : DataW.trod enc P w base spare held fuel t [.slice A len cap] = some x) : ∃ t, Accs w A len cap t ∧ (len = 0 ∨ ∃ el sp, x.1 = .slice el sp ∧ el.length = len) := by
  obtain ⟨⟨C, hR, hT⟩, hD⟩ := open_rows ht he hone hC (by omega) h
  have f0 : ∃ f, fs[0]? = some f ∧ P.underlying f.type = some (.int .i64) := by
    refine ⟨fs[0], Array.getElem?_eq_getElem (by omega), ?_⟩
    have := congrArg (·[0]?) hint
    simpa [show 0 < fs.size by omega] using this
  have f1 : ∃ f, fs[1]? = some f ∧ P.underlying f.type = some .bool := by
    refine ⟨fs[1], Array.getElem?_eq_getElem (by omega), ?_⟩
    have := congrArg (·[1]?) hint
    simpa [show 1 < fs.size by omega] using this
  obtain ⟨f0, hf0, ht0⟩ := f0
  obtain ⟨f1, hf1, ht1⟩ := f1
  have key : ∀ i, ∃ v : Acc, i < len → C i 0 = .int .i64 v.1 ∧ C i 1 = .bool v.2 := by
    intro i
    by_cases hi : i < len
    · obtain ⟨n, z, h0⟩ := hT i 0 f0 hi hf0
      obtain ⟨n', z', h1⟩ := hT i 1 f1 hi hf1
      obtain ⟨v, hv, _⟩ := DataW.trod_int ht0 h0
      obtain ⟨b, hb, _⟩ := DataW.trod_bool ht1 h1
      exact ⟨(v, b), fun _ => ⟨by simpa using hv, by simpa using hb⟩⟩
    · exact ⟨(0, false), fun h => absurd h hi⟩
  have hV : ∃ V : Nat → Acc, ∀ i, i < len → C i 0 = .int .i64 (V i).1 ∧ C i 1 = .bool (V i).2 := ⟨fun i => Classical.choose (key i), fun i => Classical.choose_spec (key i)⟩
  obtain ⟨V, hV⟩ := hV
  refine ⟨(List.range len).map V, ⟨by simp, ⟨by rw [encAccs_length], A, cap, by simp, by simpa using hR.1, fun h => ?_⟩, hR.2.1⟩, hD⟩
  obtain ⟨g, off, hA, hc⟩ := hR.2.2 (by simpa using h)
  refine ⟨g, off, hA, fun j u hu => ?_⟩
  obtain ⟨hk, rfl⟩ := encAccs_get _ j u hu
  simp only [List.length_map, List.length_range] at hk
  have h2 := hV (j / 2) hk
  have e0 := hc (j / 2) (j % 2) hk (by omega)
  rw [hsz, show j / 2 * 2 + j % 2 = j by omega] at e0
  rw [e0]
  by_cases e : j % 2 = 0
  · rw [if_pos e, e, h2.1]; simp
  · rw [if_neg e, show j % 2 = 1 by omega, h2.2]; simp
end
end Go.Proofs.Ytokldnmhhhaalaa
