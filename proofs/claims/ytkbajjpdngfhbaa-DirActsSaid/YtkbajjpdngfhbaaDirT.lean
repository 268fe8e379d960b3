
/- A directory's table: plain. -/
import Derived.Test.YtkbajjpdngfhbaaDirSlot
namespace Go.Proofs.Ytkbajjpdngfhbaa
open Go.RowKit

/-- An entry: a name and its number. -/
abbrev Ent := ByteArray × Nat
def sW0 : Option Ent → Int
  | none => 0
  | some e => headW e.1 e.2
def sW1 : Option Ent → Int
  | none => 0
  | some e => firstW e.1
def sW2 : Option Ent → Int
  | none => 0
  | some e => secondW e.1
def EntOk (e : Ent) : Prop := ncheck e.1 = 0 ∧ 1 ≤ e.2 ∧ e.2 < 2147483648
theorem ncheck_size {s : ByteArray} (h : ncheck s = 0) : s.size ≤ 12 := by
  unfold ncheck at h
  by_cases h1 : 12 < s.size
  · rw [if_pos h1] at h; cases h
  · omega
/-- The words from f on are the table S: eight buckets of four slots. -/
structure Tab (ws : List Int) (f : Int) (S : Nat → Nat → Option Ent) : Prop where
  len : 0 ≤ f ∧ f + 104 ≤ ws.length
  at0 : ∀ b k : Nat, b < 8 → k < 4 → rd ws (f + (b : Int) * 13 + 1 + (k : Int) * 3) = sW0 (S b k)
  at1 : ∀ b k : Nat, b < 8 → k < 4 → rd ws (f + (b : Int) * 13 + 1 + (k : Int) * 3 + 1) = sW1 (S b k)
  at2 : ∀ b k : Nat, b < 8 → k < 4 → rd ws (f + (b : Int) * 13 + 1 + (k : Int) * 3 + 2) = sW2 (S b k)
  ok : ∀ (b k : Nat) (e : Ent), b < 8 → k < 4 → S b k = some e → EntOk e ∧ nbucket e.1 = b
  uni : ∀ (b k k' : Nat) (e e' : Ent), b < 8 → k < 4 → k' < 4 → S b k = some e → S b k' = some e' → e.1 = e'.1 → k = k'

def updS (S : Nat → Nat → Option Ent) (b k : Nat) (x : Option Ent) : Nat → Nat → Option Ent := fun b' k' => if b' = b ∧ k' = k then x else S b' k'
theorem Tab.set {ws ws' : List Int} {f : Int} {S : Nat → Nat → Option Ent} (h : Tab ws f S) {b k : Nat} (hb : b < 8) (hk : k < 4) {x : Option Ent} (hl : ws'.length = ws.length)
    (hr : ∀ i, 0 ≤ i → i ≠ f + (b : Int) * 13 → rd ws' i = if i = f + (b : Int) * 13 + 1 + (k : Int) * 3 then sW0 x else if i = f + (b : Int) * 13 + 1 + (k : Int) * 3 + 1 then sW1 x else if i = f + (b : Int) * 13 + 1 + (k : Int) * 3 + 2 then sW2 x else rd ws i)
    (hx : ∀ e, x = some e → EntOk e ∧ nbucket e.1 = b) (hn : ∀ e, x = some e → ∀ k' e', k' < 4 → k' ≠ k → S b k' = some e' → e.1 ≠ e'.1) : Tab ws' f (updS S b k x) := by
  have hl0 := h.len
  have key : ∀ (b' k' j : Nat), b' < 8 → k' < 4 → j < 3 → rd ws' (f + (b' : Int) * 13 + 1 + (k' : Int) * 3 + (j : Int)) = if b' = b ∧ k' = k then (if j = 0 then sW0 x else if j = 1 then sW1 x else sW2 x) else rd ws (f + (b' : Int) * 13 + 1 + (k' : Int) * 3 + (j : Int)) := by
    intro b' k' j hb' hk' hj
    have hne : ∀ (p q : Nat), p < 4 → q < 3 → f + (b' : Int) * 13 + 1 + (p : Int) * 3 + (q : Int) ≠ f + (b : Int) * 13 := by
      intro p q hp hq
      have h12 : ∃ c : Nat, c = p * 3 + q + 1 ∧ 1 ≤ c ∧ c ≤ 12 := ⟨_, rfl, by omega, by omega⟩
      obtain ⟨c, hc, hc1, hc2⟩ := h12
      have : c = 1 ∨ c = 2 ∨ c = 3 ∨ c = 4 ∨ c = 5 ∨ c = 6 ∨ c = 7 ∨ c = 8 ∨ c = 9 ∨ c = 10 ∨ c = 11 ∨ c = 12 := by omega
      rcases this with h | h | h | h | h | h | h | h | h | h | h | h <;> omega
    rw [hr _ (by omega) (hne k' j hk' hj)]
    have hpl : ∀ q : Nat, q < 3 → (f + (b' : Int) * 13 + 1 + (k' : Int) * 3 + (j : Int) = f + (b : Int) * 13 + 1 + (k : Int) * 3 + (q : Int) ↔ (b' = b ∧ k' = k) ∧ j = q) := by
      intro q hq
      constructor
      · intro e
        have hb2 : b' = b := by
          have e2 : ((b' : Int) - b) * 13 = ((k : Int) * 3 + q) - ((k' : Int) * 3 + j) := by omega
          generalize ((k : Int) * 3 + q) - ((k' : Int) * 3 + j) = z at e2
          omega
        subst hb2
        omega
      · rintro ⟨⟨e1, e2⟩, e3⟩
        rw [e1, e2, e3]
    have p0 := hpl 0 (by omega)
    have p1 := hpl 1 (by omega)
    have p2 := hpl 2 (by omega)
    rw [show f + (b : Int) * 13 + 1 + (k : Int) * 3 + ((0 : Nat) : Int) = f + (b : Int) * 13 + 1 + (k : Int) * 3 by omega] at p0
    have c1 : ((1 : Nat) : Int) = 1 := rfl
    have c2 : ((2 : Nat) : Int) = 2 := rfl
    rw [c1] at p1
    rw [c2] at p2
    by_cases e : b' = b ∧ k' = k
    · rw [if_pos e]
      have p0 := p0.trans (and_iff_right e)
      have p1 := p1.trans (and_iff_right e)
      have p2 := p2.trans (and_iff_right e)
      by_cases j0 : j = 0
      · rw [if_pos (p0.2 j0), if_pos j0]
      · rw [if_neg (fun h => j0 (p0.1 h)), if_neg j0]
        by_cases j1 : j = 1
        · rw [if_pos (p1.2 j1), if_pos j1]
        · rw [if_neg (fun h => j1 (p1.1 h)), if_neg j1, if_pos (p2.2 (by omega))]
    · rw [if_neg e, if_neg (fun h => e (p0.1 h).1), if_neg (fun h => e (p1.1 h).1), if_neg (fun h => e (p2.1 h).1)]
  refine ⟨⟨hl0.1, by omega⟩, ?_, ?_, ?_, ?_, ?_⟩
  · intro b' k' hb' hk'
    have q := key b' k' 0 hb' hk' (by omega)
    rw [show f + (b' : Int) * 13 + 1 + (k' : Int) * 3 + ((0 : Nat) : Int) = f + (b' : Int) * 13 + 1 + (k' : Int) * 3 by omega] at q
    rw [q]
    unfold updS
    by_cases e : b' = b ∧ k' = k
    · rw [if_pos e, if_pos e, if_pos rfl]
    · rw [if_neg e, if_neg e]; exact h.at0 b' k' hb' hk'
  · intro b' k' hb' hk'
    have q := key b' k' 1 hb' hk' (by omega)
    rw [show f + (b' : Int) * 13 + 1 + (k' : Int) * 3 + ((1 : Nat) : Int) = f + (b' : Int) * 13 + 1 + (k' : Int) * 3 + 1 by omega] at q
    rw [q]
    unfold updS
    by_cases e : b' = b ∧ k' = k
    · rw [if_pos e, if_pos e, if_neg (by omega), if_pos rfl]
    · rw [if_neg e, if_neg e]; exact h.at1 b' k' hb' hk'
  · intro b' k' hb' hk'
    have q := key b' k' 2 hb' hk' (by omega)
    rw [show f + (b' : Int) * 13 + 1 + (k' : Int) * 3 + ((2 : Nat) : Int) = f + (b' : Int) * 13 + 1 + (k' : Int) * 3 + 2 by omega] at q
    rw [q]
    unfold updS
    by_cases e : b' = b ∧ k' = k
    · rw [if_pos e, if_pos e, if_neg (by omega), if_neg (by omega)]
    · rw [if_neg e, if_neg e]; exact h.at2 b' k' hb' hk'
  · intro b' k' e hb' hk' he
    unfold updS at he
    by_cases q : b' = b ∧ k' = k
    · rw [if_pos q] at he
      rw [q.1]
      exact hx e he
    · rw [if_neg q] at he
      exact h.ok b' k' e hb' hk' he
  · intro b' k1 k2 e1 e2 hb' h1 h2 q1 q2 hne
    unfold updS at q1 q2
    by_cases c1 : b' = b ∧ k1 = k
    · by_cases c2 : b' = b ∧ k2 = k
      · omega
      · rw [if_pos c1] at q1
        rw [if_neg c2] at q2
        have hk2 : k2 ≠ k := fun q => c2 ⟨c1.1, q⟩
        rw [c1.1] at q2
        exact absurd hne (hn e1 q1 k2 e2 h2 hk2 q2)
    · rw [if_neg c1] at q1
      by_cases c2 : b' = b ∧ k2 = k
      · rw [if_pos c2] at q2
        have hk1 : k1 ≠ k := fun q => c1 ⟨c2.1, q⟩
        rw [c2.1] at q1
        exact absurd hne.symm (hn e2 q2 k1 e1 h1 hk1 q1)
      · rw [if_neg c2] at q2
        exact h.uni b' k1 k2 e1 e2 hb' h1 h2 q1 q2 hne

def numOf : Option Ent → Nat
  | none => 0
  | some e => e.2
theorem num_sW {x : Option Ent} (hx : ∀ e, x = some e → EntOk e) : sW0 x % 2147483648 = (numOf x : Int) := by
  cases x with
  | none => rfl
  | some e =>
    have := (hx e rfl).2
    show headW e.1 e.2 % 2147483648 = (e.2 : Int)
    unfold headW
    omega
theorem same_sW {x : Option Ent} (hx : ∀ e, x = some e → EntOk e) {s : ByteArray} (hs : s.size ≤ 12) :
    (!(sW0 x % 2147483648 == 0) && (sW0 x / 2147483648 == headW s 1 / 2147483648) && (sW1 x == firstW s) && (sW2 x == secondW s)) = true ↔ ∃ v, x = some (s, v) := by
  constructor
  · intro h
    simp only [Bool.and_eq_true, Bool.not_eq_true', beq_iff_eq, beq_eq_false_iff_ne] at h
    obtain ⟨⟨⟨h0, h1⟩, h2⟩, h3⟩ := h
    cases x with
    | none => exact absurd rfl h0
    | some e =>
      have ho := hx e rfl
      have hz := ncheck_size ho.1
      have h1 : headW e.1 e.2 / 2147483648 = headW s 1 / 2147483648 := h1
      have : e.1.size = s.size := by unfold headW at h1; have := ho.2; omega
      have := words_inj hz hs this h2 h3
      exact ⟨e.2, by rw [← this]⟩
  · rintro ⟨v, rfl⟩
    have ho := hx _ rfl
    have hz := ho.2
    simp only [Bool.and_eq_true, Bool.not_eq_true', beq_iff_eq, beq_eq_false_iff_ne]
    refine ⟨⟨⟨?_, ?_⟩, rfl⟩, rfl⟩
    · show headW s v % 2147483648 ≠ 0
      unfold headW
      simp only at hz
      omega
    · show headW s v / 2147483648 = headW s 1 / 2147483648
      unfold headW
      simp only at hz
      omega
end Go.Proofs.Ytkbajjpdngfhbaa
