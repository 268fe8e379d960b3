
/- A directory as a list of entries: plain. -/
import Derived.Test.YtkbajjpdngfhbaaDirList
namespace Go.Proofs.Ytkbajjpdngfhbaa
open Go.RowKit

def rowOf (B : Nat → Option Ent) : List Ent := (B 0).toList ++ (B 1).toList ++ (B 2).toList ++ (B 3).toList
theorem entsTo_row (T : Nat → Nat → Option Ent) (b : Nat) : entsTo T (4 * (b + 1)) = entsTo T (4 * b) ++ rowOf (T b) := by
  have h0 := entsTo_succ T b 0 (by omega)
  have h1 := entsTo_succ T b 1 (by omega)
  have h2 := entsTo_succ T b 2 (by omega)
  have h3 := entsTo_succ T b 3 (by omega)
  have e : 4 * (b + 1) = 4 * b + 3 + 1 := by omega
  rw [e, h3, show 4 * b + 3 = 4 * b + 2 + 1 by omega, h2, show 4 * b + 2 = 4 * b + 1 + 1 by omega, h1, show 4 * b + 1 = 4 * b + 0 + 1 by omega, h0, Nat.add_zero]
  simp [rowOf]
theorem mem_row {B : Nat → Option Ent} {e : Ent} : e ∈ rowOf B ↔ ∃ k, k < 4 ∧ B k = some e := by
  unfold rowOf
  simp only [List.mem_append, Option.mem_toList]
  constructor
  · rintro (((h | h) | h) | h)
    · exact ⟨0, by omega, h⟩
    · exact ⟨1, by omega, h⟩
    · exact ⟨2, by omega, h⟩
    · exact ⟨3, by omega, h⟩
  · rintro ⟨k, hk, h⟩
    have : k = 0 ∨ k = 1 ∨ k = 2 ∨ k = 3 := by omega
    rcases this with rfl | rfl | rfl | rfl
    · exact .inl (.inl (.inl h))
    · exact .inl (.inl (.inr h))
    · exact .inl (.inr h)
    · exact .inr h
theorem row_len (B : Nat → Option Ent) : ((∀ k, k < 4 → B k ≠ none) ∧ (rowOf B).length = 4) ∨ ((∃ k, k < 4 ∧ B k = none) ∧ (rowOf B).length < 4) := by
  unfold rowOf
  rcases h0 : B 0 with _ | a
  · refine .inr ⟨⟨0, by omega, h0⟩, ?_⟩
    cases B 1 <;> cases B 2 <;> cases B 3 <;> simp
  · rcases h1 : B 1 with _ | b
    · refine .inr ⟨⟨1, by omega, h1⟩, ?_⟩
      cases B 2 <;> cases B 3 <;> simp
    · rcases h2 : B 2 with _ | c
      · refine .inr ⟨⟨2, by omega, h2⟩, ?_⟩
        cases B 3 <;> simp
      · rcases h3 : B 3 with _ | d
        · exact .inr ⟨⟨3, by omega, h3⟩, by simp⟩
        · refine .inl ⟨fun k hk => ?_, by simp⟩
          have : k = 0 ∨ k = 1 ∨ k = 2 ∨ k = 3 := by omega
          rcases this with rfl | rfl | rfl | rfl
          · rw [h0]; exact fun h => by cases h
          · rw [h1]; exact fun h => by cases h
          · rw [h2]; exact fun h => by cases h
          · rw [h3]; exact fun h => by cases h
theorem mem_ents {T : Nat → Nat → Option Ent} {e : Ent} : ∀ j, (e ∈ entsTo T (4 * j) ↔ ∃ b k, b < j ∧ k < 4 ∧ T b k = some e)
  | 0 => by
    constructor
    · intro h; cases h
    · rintro ⟨b, _, h, _⟩; omega
  | j + 1 => by
    rw [entsTo_row, List.mem_append, mem_ents j, mem_row]
    constructor
    · rintro (⟨b, k, h1, h2, h3⟩ | ⟨k, h2, h3⟩)
      · exact ⟨b, k, by omega, h2, h3⟩
      · exact ⟨j, k, by omega, h2, h3⟩
    · rintro ⟨b, k, h1, h2, h3⟩
      by_cases e : b = j
      · subst e; exact .inr ⟨k, h2, h3⟩
      · exact .inl ⟨b, k, by omega, h2, h3⟩
/-- All entries. -/
def ents (T : Nat → Nat → Option Ent) : List Ent := entsTo T (4 * 8)
theorem ents_32 (T : Nat → Nat → Option Ent) : ents T = entsTo T 32 := rfl
section
variable {ws : List Int} {f : Int} {T : Nat → Nat → Option Ent}
theorem Tab.mem (h : Tab ws f T) {s : ByteArray} {v : Nat} : (s, v) ∈ ents T ↔ ∃ k, k < 4 ∧ T (nbucket s) k = some (s, v) := by
  unfold ents
  rw [mem_ents]
  constructor
  · rintro ⟨b, k, hb, hk, he⟩
    have := (h.ok b k _ hb hk he).2
    simp only at this
    subst this
    exact ⟨k, hk, he⟩
  · rintro ⟨k, hk, he⟩
    exact ⟨_, k, nbucket_lt s, hk, he⟩
/-- No name twice. -/
def Uniq (D : List Ent) : Prop := D.Pairwise fun x y => x.1 ≠ y.1
theorem Uniq.perm {D D' : List Ent} (h : Uniq D) (hp : D.Perm D') : Uniq D' := (hp.pairwise_iff fun h => Ne.symm h).1 h
theorem row_uniq {B : Nat → Option Ent} (h : ∀ (k k' : Nat) (e e' : Ent), k < 4 → k' < 4 → B k = some e → B k' = some e' → e.1 = e'.1 → k = k') : Uniq (rowOf B) := by
  unfold Uniq rowOf
  have key : ∀ i j, i < 4 → j < 4 → i ≠ j → ∀ x ∈ (B i).toList, ∀ y ∈ (B j).toList, x.1 ≠ y.1 := by
    intro i j hi hj hij x hx y hy hxy
    rw [Option.mem_toList] at hx hy
    exact hij (h i j x y hi hj hx hy hxy)
  have one : ∀ i, (B i).toList.Pairwise fun x y : Ent => x.1 ≠ y.1 := by
    intro i
    cases B i <;> simp
  rw [List.pairwise_append, List.pairwise_append, List.pairwise_append]
  refine ⟨⟨⟨one 0, one 1, key 0 1 (by omega) (by omega) (by omega)⟩, one 2, ?_⟩, one 3, ?_⟩
  · intro x hx y hy
    rw [List.mem_append] at hx
    rcases hx with hx | hx
    · exact key 0 2 (by omega) (by omega) (by omega) x hx y hy
    · exact key 1 2 (by omega) (by omega) (by omega) x hx y hy
  · intro x hx y hy
    rw [List.mem_append, List.mem_append] at hx
    rcases hx with (hx | hx) | hx
    · exact key 0 3 (by omega) (by omega) (by omega) x hx y hy
    · exact key 1 3 (by omega) (by omega) (by omega) x hx y hy
    · exact key 2 3 (by omega) (by omega) (by omega) x hx y hy
theorem Tab.uniqTo (h : Tab ws f T) : ∀ j, j ≤ 8 → Uniq (entsTo T (4 * j))
  | 0, _ => List.Pairwise.nil
  | j + 1, hj => by
    rw [entsTo_row]
    unfold Uniq
    rw [List.pairwise_append]
    refine ⟨h.uniqTo j (by omega), row_uniq (fun k k' e e' hk hk' h1 h2 h3 => h.uni j k k' e e' (by omega) hk hk' h1 h2 h3), ?_⟩
    intro x hx y hy hxy
    rw [mem_ents] at hx
    rw [mem_row] at hy
    obtain ⟨b, k, hb, hk, h1⟩ := hx
    obtain ⟨k', hk', h2⟩ := hy
    have e1 := (h.ok b k x (by omega) hk h1).2
    have e2 := (h.ok j k' y (by omega) hk' h2).2
    rw [hxy] at e1
    omega
theorem Tab.uniq (h : Tab ws f T) : Uniq (ents T) := h.uniqTo 8 (by omega)
/-- How many entries a bucket has. -/
def cntB (D : List Ent) (b : Nat) : Nat := (D.filter fun e => nbucket e.1 == b).length
theorem cntB_perm {D D' : List Ent} (hp : D.Perm D') (b : Nat) : cntB D b = cntB D' b := (hp.filter _).length_eq
theorem Tab.cntTo (h : Tab ws f T) {b : Nat} : ∀ j, j ≤ 8 → cntB (entsTo T (4 * j)) b = if b < j then (rowOf (T b)).length else 0
  | 0, _ => rfl
  | j + 1, hj => by
    have ih := h.cntTo (b := b) j (by omega)
    unfold cntB at *
    rw [entsTo_row, List.filter_append, List.length_append, ih]
    have hrow : ∀ e ∈ rowOf (T j), nbucket e.1 = j := by
      intro e he
      rw [mem_row] at he
      obtain ⟨k, hk, h1⟩ := he
      exact (h.ok j k e (by omega) hk h1).2
    by_cases e : b = j
    · subst e
      rw [if_neg (by omega), if_pos (by omega), List.filter_eq_self.2 (fun e he => by simp [hrow e he])]
      omega
    · rw [List.filter_eq_nil_iff.2 (fun x hx => by have := hrow x hx; simp; omega)]
      by_cases h2 : b < j
      · rw [if_pos h2, if_pos (by omega)]; rfl
      · rw [if_neg h2, if_neg (by omega)]; rfl
theorem Tab.cnt (h : Tab ws f T) {b : Nat} (hb : b < 8) : cntB (ents T) b = (rowOf (T b)).length := by
  have := h.cntTo (b := b) 8 (by omega)
  rw [if_pos hb] at this
  exact this
theorem Tab.full (h : Tab ws f T) {b : Nat} (hb : b < 8) : (∀ k, k < 4 → T b k ≠ none) ↔ 4 ≤ cntB (ents T) b := by
  rw [h.cnt hb]
  rcases row_len (T b) with ⟨h1, h2⟩ | ⟨⟨k, hk, h1⟩, h2⟩
  · exact ⟨fun _ => by omega, fun _ => h1⟩
  · exact ⟨fun h3 => absurd h1 (h3 k hk), fun h3 => by omega⟩
theorem Tab.ok_mem (h : Tab ws f T) {e : Ent} (he : e ∈ ents T) : EntOk e := by
  unfold ents at he
  rw [mem_ents] at he
  obtain ⟨b, k, hb, hk, h1⟩ := he
  exact (h.ok b k e hb hk h1).1
end
/-- A slot turned: its entries. -/
theorem fm_upd (T : Nat → Nat → Option Ent) {b k : Nat} (hk : k < 4) (x : Option Ent) : ∀ j, entsTo (updS T b k x) (4 * j) = if b < j then entsTo T (4 * b) ++ rowOf (updS T b k x b) ++ ((List.range (j - b - 1)).flatMap fun i => rowOf (T (b + 1 + i))) else entsTo T (4 * j)
  | 0 => by rw [if_neg (by omega)]; rfl
  | j + 1 => by
    rw [entsTo_row, fm_upd T hk x j]
    by_cases h1 : b < j
    · rw [if_pos h1, if_pos (by omega)]
      have e1 : updS T b k x j = T j := by funext q; unfold updS; rw [if_neg (by omega)]
      have e2 : j + 1 - b - 1 = (j - b - 1) + 1 := by omega
      rw [e1, e2, List.range_succ, List.flatMap_append, List.append_assoc]
      have e3 : b + 1 + (j - b - 1) = j := by omega
      simp [e3]
    · rw [if_neg h1]
      by_cases h2 : b = j
      · subst h2
        rw [if_pos (by omega)]
        simp
      · rw [if_neg (by omega), entsTo_row]
        have e1 : updS T b k x j = T j := by funext q; unfold updS; rw [if_neg (by omega)]
        rw [e1]
theorem updS_self (T : Nat → Nat → Option Ent) (b k : Nat) : updS T b k (T b k) = T := by
  funext b' k'
  unfold updS
  by_cases h : b' = b ∧ k' = k
  · rw [if_pos h, h.1, h.2]
  · rw [if_neg h]
theorem updS_updS (T : Nat → Nat → Option Ent) (b k : Nat) (x y : Option Ent) : updS (updS T b k x) b k y = updS T b k y := by
  funext b' k'
  unfold updS
  by_cases h : b' = b ∧ k' = k
  · rw [if_pos h, if_pos h]
  · rw [if_neg h, if_neg h, if_neg h]
theorem row_upd (T : Nat → Nat → Option Ent) {b k : Nat} (hk : k < 4) (e : Ent) : (rowOf (updS T b k (some e) b)).Perm (e :: rowOf (updS T b k none b)) := by
  have h4 : ∀ x q, updS T b k x b q = if q = k then x else T b q := fun x q => by
    unfold updS
    by_cases h : q = k
    · rw [if_pos ⟨rfl, h⟩, if_pos h]
    · rw [if_neg (fun hh => h hh.2), if_neg h]
  unfold rowOf
  simp only [h4]
  have : k = 0 ∨ k = 1 ∨ k = 2 ∨ k = 3 := by omega
  rcases this with rfl | rfl | rfl | rfl
  · simp
  · simp [List.append_assoc]
    try exact List.perm_middle
  · simp [List.append_assoc]
    rw [← List.append_assoc, ← List.append_assoc (T b 0).toList]
    exact List.perm_middle
  · simp [List.append_assoc]
    have := List.perm_append_singleton e ((T b 0).toList ++ (T b 1).toList ++ (T b 2).toList)
    simpa [List.append_assoc] using this
theorem ents_upd (T : Nat → Nat → Option Ent) {b k : Nat} (hb : b < 8) (hk : k < 4) (e : Ent) : (ents (updS T b k (some e))).Perm (e :: ents (updS T b k none)) := by
  unfold ents
  rw [fm_upd T hk _ 8, fm_upd T hk _ 8, if_pos hb, if_pos hb]
  have h := row_upd T (b := b) hk e
  refine ((h.append_left (entsTo T (4 * b))).append_right _).trans ?_
  rw [List.append_assoc, List.append_assoc]
  exact List.perm_middle
end Go.Proofs.Ytkbajjpdngfhbaa
