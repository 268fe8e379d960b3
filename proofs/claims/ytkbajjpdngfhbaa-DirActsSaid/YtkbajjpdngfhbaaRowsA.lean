
/- An argument that is a slice of structs of one cell each; of acts. -/
import Derived.Test.YtkbajjpdngfhbaaActs
namespace Go.Proofs.Ytkbajjpdngfhbaa
open Go.RowKit Go.ChangeShapes Go.WideShapes Go.Deep

/-- A slice of structs of k cells: cell j of element i is C i j. -/
def RowsIn (w : World) (A : Option Addr) (len cap k : Nat) (C : Nat → Nat → Value) : Prop :=
  len ≤ cap ∧ cap ≤ maxLen ∧ (0 < len → ∃ g off, A = some ⟨g, off, none⟩ ∧ ∀ i j, i < len → j < k → w.cell? ⟨g, off + (i * k + j), none⟩ = some (C i j))
section
variable {H : Type} {enc : TypeId × Value → H} {P : Program} {w : World} {base : Nat} {spare : Nat → Bool} {held : Bool}
theorem open_rows {t e : TypeId} {fs : Array Field} {fuel : Nat} {A : Option Addr} {len cap : Nat} {x : DataW H × List MemPlace} (ht : P.underlying t = some (.slice e)) (he : P.underlying e = some (.struct fs))
    (hone : oneCellFields P fs = true) (hC : P.cellsOf e = fs.size) (h0 : 0 < fs.size)
    (h : DataW.trod enc P w base spare held fuel t [.slice A len cap] = some x) :
    (∃ C, RowsIn w A len cap fs.size C ∧ ∀ i j f, i < len → fs[j]? = some f → ∃ n z, DataW.trod enc P w base spare held n f.type [C i j] = some z) ∧ (len = 0 ∨ ∃ el sp, x.1 = .slice el sp ∧ el.length = len) := by
  rcases open_slice ht h with ⟨hcs, _⟩ | ⟨a, l, c, m, n, D, Pl, hcs, hb, hl, hm, hmm, hx, hi⟩
  · simp at hcs
    obtain ⟨rfl, rfl, rfl⟩ := hcs
    exact ⟨⟨fun _ _ => undef, ⟨Nat.le_refl _, Nat.zero_le _, fun h => absurd h (by omega)⟩, fun i j f hi => absurd hi (by omega)⟩, .inl rfl⟩
  · simp at hcs
    obtain ⟨rfl, rfl, rfl⟩ := hcs
    have hlm : len ≤ m := by rw [hmm]; split <;> omega
    have key : ∀ i j, i < len → j < fs.size → ∃ v : Value, w.cell? (a.add (i * fs.size + j)) = some v ∧ ∀ f, fs[j]? = some f → ∃ n z, DataW.trod enc P w base spare held n f.type [v] = some z := by
      intro i j hil hj
      obtain ⟨cs', hc, ht'⟩ := hi i (by omega)
      rw [hC] at hc
      obtain ⟨ys, n', _, _, _, hyl, hf⟩ := DataW.trod_struct he ht'
      obtain ⟨_, hcl, hat⟩ := World.cells?_some hc
      have hjf : fs[j]? = some fs[j] := Array.getElem?_eq_getElem hj
      obtain ⟨ho, hk⟩ := hone_of hone j _ hjf
      have hv : cs'[j]? = some (cs'[j]'(by omega)) := List.getElem?_eq_getElem (by omega)
      have h1 := hf j _ hjf
      rw [ho, hk] at h1
      have e1 : (cs'.drop j).take 1 = [cs'[j]'(by omega)] := by
        rw [List.drop_eq_getElem_cons (by omega)]
        rfl
      have hys : ys[j]? = some (ys[j]'(by omega)) := List.getElem?_eq_getElem (by omega)
      rw [e1, hys] at h1
      refine ⟨cs'[j]'(by omega), ?_, fun f hf' => ?_⟩
      · have := hat j hj
        rw [← Go.Deep.add_add, this, hv]
      · rw [hjf] at hf'
        obtain rfl := Option.some.inj hf'
        exact ⟨_, _, h1⟩
    have hF : ∃ C : Nat → Nat → Value, ∀ i j, i < len → j < fs.size → w.cell? (a.add (i * fs.size + j)) = some (C i j) ∧ ∀ f, fs[j]? = some f → ∃ n z, DataW.trod enc P w base spare held n f.type [C i j] = some z := by
      refine ⟨fun i j => if hh : i < len ∧ j < fs.size then Classical.choose (key i j hh.1 hh.2) else undef, fun i j hil hj => ?_⟩
      have hd : (if hh : i < len ∧ j < fs.size then Classical.choose (key i j hh.1 hh.2) else undef) = Classical.choose (key i j hil hj) := dif_pos ⟨hil, hj⟩
      simp only [hd]
      exact Classical.choose_spec (key i j hil hj)
    obtain ⟨C, hF⟩ := hF
    refine ⟨⟨C, ⟨hl, hm, fun hpos => ?_⟩, fun i j f hil hjf => (hF i j hil (Array.getElem?_eq_some_iff.1 hjf).1).2 f hjf⟩, .inr ⟨_, _, by rw [hx], by simp⟩⟩
    have hsp : a.spot = none := by
      have h := (hF 0 0 hpos h0).1
      have hx : a.add (0 * fs.size + 0) = a := by rw [Nat.zero_mul]; rfl
      rw [hx] at h
      cases hs : a.spot with
      | none => rfl
      | some s => simp [World.cell?, hs] at h; split at h <;> simp at h
    obtain ⟨g, off, sp⟩ := a
    simp only at hsp
    subst hsp
    refine ⟨g, off, rfl, fun i j hil hj => ?_⟩
    have h1 := (hF i j hil hj).1
    rw [Addr.add_lit] at h1
    exact h1
end
theorem RowsIn.at_ {w wr : World} {A : Option Addr} {len cap k : Nat} {C : Nat → Nat → Value} (h : RowsIn w A len cap k C) {i : Nat} (hi : i < len) (hb : Below w.heap.size w wr) :
    ∃ g off, A = some ⟨g, off, none⟩ ∧ ∀ j, j < k → wr.cell? ⟨g, off + (i * k + j), none⟩ = some (C i j) := by
  obtain ⟨g, off, hA, hc⟩ := h.2.2 (by omega)
  exact ⟨g, off, hA, fun j hj => (hb.cell (World.block_lt_of_cell? w _ (hc i j hi hj))).trans (hc i j hi hj)⟩
end Go.Proofs.Ytkbajjpdngfhbaa

namespace Go.Proofs.Ytkbajjpdngfhbaa
open Go.RowKit Go.ChangeShapes Go.WideShapes Go.Deep

/-- An act's cells. -/
def actC (F : Nat → Int) (s t : ByteArray) : Nat → Value
  | 0 => .int .i64 (F 0)
  | 1 => .int .i64 (F 1)
  | 2 => .int .i64 (F 2)
  | 3 => .string s
  | _ => .string t
def ActsS (w : World) (A : Option Addr) (len cap : Nat) (F : Nat → Nat → Int) (S T : Nat → ByteArray) : Prop :=
  (∀ i, i < len → ∀ j, j < 3 → -9223372036854775808 ≤ F i j ∧ F i j ≤ 9223372036854775807) ∧ RowsIn w A len cap 5 (fun i j => actC (F i) (S i) (T i) j)
theorem ActsS.len_le {w : World} {A : Option Addr} {len cap : Nat} {F : Nat → Nat → Int} {S T : Nat → ByteArray} (h : ActsS w A len cap F S T) : len ≤ 9223372036854775807 := by
  have := h.2.1
  have h2 := h.2.2.1
  unfold maxLen at h2
  omega
section
variable {H : Type} {enc : TypeId × Value → H} {P : Program} {w : World} {base : Nat} {spare : Nat → Bool} {held : Bool}
theorem open_acts {t e : TypeId} {fs : Array Field} {fuel : Nat} {A : Option Addr} {len cap : Nat} {x : DataW H × List MemPlace} (ht : P.underlying t = some (.slice e)) (he : P.underlying e = some (.struct fs))
    (hone : oneCellFields P fs = true) (hC : P.cellsOf e = fs.size) (hsz : fs.size = 5) (hint : (fs.toList.map fun f => P.underlying f.type) = [some (.int .i64), some (.int .i64), some (.int .i64), some .string, some .string])
    (h : DataW.trod enc P w base spare held fuel t [.slice A len cap] = some x) : ∃ F S T, ActsS w A len cap F S T := by
  obtain ⟨⟨C, hR, hT⟩, _⟩ := open_rows ht he hone hC (by omega) h
  have ff : ∀ j, j < 5 → ∃ f, fs[j]? = some f ∧ some (P.underlying f.type) = ([some (.int .i64), some (.int .i64), some (.int .i64), some .string, some .string] : List (Option TypeDesc))[j]? := by
    intro j hj
    refine ⟨fs[j], Array.getElem?_eq_getElem (by omega), ?_⟩
    have := congrArg (fun l : List (Option TypeDesc) => l[j]?) hint
    refine Eq.trans ?_ this
    simp [show j < fs.size by omega]
  have ki : ∀ i j, j < 3 → ∃ v : Int, i < len → C i j = .int .i64 v ∧ -9223372036854775808 ≤ v ∧ v ≤ 9223372036854775807 := by
    intro i j hj
    by_cases hi : i < len
    · obtain ⟨f, hf, ht0⟩ := ff j (by omega)
      have ht1 : P.underlying f.type = some (.int .i64) := by
        have : j = 0 ∨ j = 1 ∨ j = 2 := by omega
        rcases this with rfl | rfl | rfl <;> simpa using ht0
      obtain ⟨n, z, h0⟩ := hT i j f hi hf
      obtain ⟨v, hv, _, hw⟩ := DataW.trod_int ht1 h0
      have hr := wf_range hw
      exact ⟨v, fun _ => ⟨by simpa using hv, hr.1, hr.2⟩⟩
    · exact ⟨0, fun h => absurd h hi⟩
  have ks : ∀ i j, 3 ≤ j → j < 5 → ∃ v : ByteArray, i < len → C i j = .string v := by
    intro i j hj hj5
    by_cases hi : i < len
    · obtain ⟨f, hf, ht0⟩ := ff j hj5
      have ht1 : P.underlying f.type = some .string := by
        have : j = 3 ∨ j = 4 := by omega
        rcases this with rfl | rfl <;> simpa using ht0
      obtain ⟨n, z, h0⟩ := hT i j f hi hf
      obtain ⟨v, hv, _⟩ := DataW.trod_string ht1 h0
      exact ⟨v, fun _ => by simpa using hv⟩
    · exact ⟨⟨#[]⟩, fun h => absurd h hi⟩
  refine ⟨fun i j => if h : j < 3 then Classical.choose (ki i j h) else 0, fun i => Classical.choose (ks i 3 (by omega) (by omega)), fun i => Classical.choose (ks i 4 (by omega) (by omega)), ?_, hR.1, hR.2.1, fun hpos => ?_⟩
  · intro i hi j hj
    have hd : (if h : j < 3 then Classical.choose (ki i j h) else 0) = Classical.choose (ki i j hj) := dif_pos hj
    simp only [hd]
    exact (Classical.choose_spec (ki i j hj) hi).2
  · obtain ⟨g, off, hA, hc⟩ := hR.2.2 hpos
    refine ⟨g, off, hA, fun i j hi hj => ?_⟩
    have hq := hc i j hi (by omega)
    rw [hsz] at hq
    refine hq.trans (congrArg some ?_)
    have : j = 0 ∨ j = 1 ∨ j = 2 ∨ j = 3 ∨ j = 4 := by omega
    rcases this with rfl | rfl | rfl | rfl | rfl
    · exact (Classical.choose_spec (ki i 0 (by omega)) hi).1
    · exact (Classical.choose_spec (ki i 1 (by omega)) hi).1
    · exact (Classical.choose_spec (ki i 2 (by omega)) hi).1
    · exact Classical.choose_spec (ks i 3 (by omega) (by omega)) hi
    · exact Classical.choose_spec (ks i 4 (by omega) (by omega)) hi
end
end Go.Proofs.Ytkbajjpdngfhbaa
