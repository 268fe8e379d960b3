
/- Rising lists: a number put in its place. Plain: no program. -/
import Derived.Test.YtokldnmhhhaalaaInts
namespace Go.Proofs.Ytokldnmhhhaalaa

def Rises (xs : List Int) : Prop := xs.Pairwise (· < ·)
theorem nth_mem {xs : List Int} {j : Nat} (h : j < xs.length) : nth xs j ∈ xs := by
  unfold nth
  rw [List.getD_eq_getElem?_getD, List.getElem?_eq_getElem h]
  exact List.getElem_mem _
theorem nth_eq {xs : List Int} {j : Nat} (h : j < xs.length) : nth xs j = xs[j] := by
  unfold nth
  rw [List.getD_eq_getElem?_getD, List.getElem?_eq_getElem h]; rfl
theorem Rises.lt {xs : List Int} (h : Rises xs) {i j : Nat} (hij : i < j) (hj : j < xs.length) : nth xs i < nth xs j := by
  rw [nth_eq (by omega), nth_eq hj]
  exact List.pairwise_iff_getElem.1 h i j (by omega) hj hij
theorem Rises.nil : Rises [] := List.Pairwise.nil

/-- From j on all are greater. -/
def Hi (xs : List Int) (x : Int) (j : Nat) : Prop := ∀ i, j ≤ i → i < xs.length → x < nth xs i
theorem Hi.top (xs : List Int) (x : Int) : Hi xs x xs.length := fun i h h' => absurd h' (by omega)
theorem Hi.down {xs : List Int} {x : Int} {j : Nat} (h : Hi xs x (j + 1)) (hj : x < nth xs j) : Hi xs x j := fun i h1 h2 => by
  by_cases e : i = j
  · subst e; exact hj
  · exact h i (by omega) h2

def put (xs : List Int) (x : Int) (j : Nat) : List Int := xs.take j ++ x :: xs.drop j
theorem put_length {xs : List Int} {x : Int} {j : Nat} (hj : j ≤ xs.length) : (put xs x j).length = xs.length + 1 := by
  simp [put]; omega
theorem mem_put {xs : List Int} {x : Int} {j : Nat} (y : Int) : y ∈ put xs x j ↔ y = x ∨ y ∈ xs := by
  unfold put
  rw [List.mem_append, List.mem_cons]
  have h := List.take_append_drop j xs
  constructor
  · rintro (h1 | h1 | h1)
    · exact .inr (List.mem_of_mem_take h1)
    · exact .inl h1
    · exact .inr (List.mem_of_mem_drop h1)
  · rintro (h1 | h1)
    · exact .inr (.inl h1)
    · rw [← h, List.mem_append] at h1
      rcases h1 with h1 | h1
      · exact .inl h1
      · exact .inr (.inr h1)
theorem Rises.put {xs : List Int} {x : Int} {j : Nat} (h : Rises xs) (hj : j ≤ xs.length) (hlo : 0 < j → nth xs (j - 1) < x) (hhi : Hi xs x j) : Rises (put xs x j) := by
  have lo : ∀ y ∈ xs.take j, y < x := by
    intro y hy
    obtain ⟨i, hi, rfl⟩ := List.getElem_of_mem hy
    rw [List.length_take] at hi
    rw [List.getElem_take]
    by_cases e : i = j - 1
    · have := hlo (by omega)
      rw [nth_eq (by omega)] at this
      subst e; exact this
    · have h1 := h.lt (i := i) (j := j - 1) (by omega) (by omega)
      have h2 := hlo (by omega)
      rw [nth_eq (by omega)] at h1
      omega
  have hi : ∀ y ∈ xs.drop j, x < y := by
    intro y hy
    obtain ⟨i, hi, rfl⟩ := List.getElem_of_mem hy
    rw [List.length_drop] at hi
    rw [List.getElem_drop, ← nth_eq (by omega)]
    exact hhi (j + i) (by omega) (by omega)
  unfold Proofs.Ytokldnmhhhaalaa.put
  refine List.pairwise_append.2 ⟨List.Pairwise.sublist (List.take_sublist _ _) h, List.pairwise_cons.2 ⟨hi, List.Pairwise.sublist (List.drop_sublist _ _) h⟩, ?_⟩
  intro y hy z hz
  rcases List.mem_cons.1 hz with rfl | hz
  · exact lo y hy
  · have h1 := lo y hy
    have h2 := hi z hz
    omega

/-- Two rising lists of the same numbers are one. -/
theorem Rises.ext {xs ys : List Int} (h : Rises xs) (h' : Rises ys) (hm : ∀ y, y ∈ xs ↔ y ∈ ys) : xs = ys := by
  induction xs generalizing ys with
  | nil =>
    cases ys with
    | nil => rfl
    | cons y ys => exact absurd ((hm y).2 (List.mem_cons_self ..)) (by simp)
  | cons x xs ih =>
    cases ys with
    | nil => exact absurd ((hm x).1 (List.mem_cons_self ..)) (by simp)
    | cons y ys =>
      obtain ⟨hx, hxs⟩ := List.pairwise_cons.1 h
      obtain ⟨hy, hys⟩ := List.pairwise_cons.1 h'
      have e : x = y := by
        rcases List.mem_cons.1 ((hm x).1 (List.mem_cons_self ..)) with e | e
        · exact e
        · rcases List.mem_cons.1 ((hm y).2 (List.mem_cons_self ..)) with e2 | e2
          · exact e2.symm
          · have := hx y e2
            have := hy x e
            omega
      subst e
      congr 1
      refine ih hxs hys fun z => ⟨fun hz => ?_, fun hz => ?_⟩
      · rcases List.mem_cons.1 ((hm z).1 (List.mem_cons_of_mem _ hz)) with e | e
        · have := hx z hz; omega
        · exact e
      · rcases List.mem_cons.1 ((hm z).2 (List.mem_cons_of_mem _ hz)) with e | e
        · have := hy z hz; omega
        · exact e

/-- The words of accesses: rising, each once. -/
structure WSt (t : List (Int × Bool)) (b : Bool) (us : List Int) : Prop where
  len : us.length ≤ t.length
  up : Rises us
  mem : ∀ y, y ∈ us ↔ ∃ x ∈ t, (b = true → x.2 = true) ∧ x.1 = y
theorem WSt.nil (b : Bool) : WSt [] b [] := ⟨Nat.le_refl _, Rises.nil, by simp⟩
theorem WSt.skip {t : List (Int × Bool)} {b : Bool} {us : List Int} (h : WSt t b us) {x : Int × Bool} (hb : b = true) (hx : x.2 = false) : WSt (t ++ [x]) b us := by
  refine ⟨by have := h.len; simp; omega, h.up, fun y => ?_⟩
  rw [h.mem]
  constructor
  · rintro ⟨z, h1, h2⟩; exact ⟨z, List.mem_append_left _ h1, h2⟩
  · rintro ⟨z, h1, h2, h3⟩
    rcases List.mem_append.1 h1 with h1 | h1
    · exact ⟨z, h1, h2, h3⟩
    · rw [List.mem_singleton.1 h1, hx] at h2
      exact absurd (h2 hb) (by simp)
theorem WSt.same {t : List (Int × Bool)} {b : Bool} {us : List Int} (h : WSt t b us) {x : Int × Bool} (hx : x.1 ∈ us) : WSt (t ++ [x]) b us := by
  refine ⟨by have := h.len; simp; omega, h.up, fun y => ?_⟩
  constructor
  · intro hy
    obtain ⟨z, h1, h2⟩ := (h.mem y).1 hy
    exact ⟨z, List.mem_append_left _ h1, h2⟩
  · rintro ⟨z, h1, h2, h3⟩
    rcases List.mem_append.1 h1 with h1 | h1
    · exact (h.mem y).2 ⟨z, h1, h2, h3⟩
    · rw [List.mem_singleton.1 h1] at h3
      rw [← h3]; exact hx
theorem WSt.put {t : List (Int × Bool)} {b : Bool} {us : List Int} (h : WSt t b us) {x : Int × Bool} (hb : b = true → x.2 = true) {j : Nat} (hj : j ≤ us.length) (hlo : 0 < j → nth us (j - 1) < x.1) (hhi : Hi us x.1 j) : WSt (t ++ [x]) b (put us x.1 j) := by
  refine ⟨by have := h.len; rw [put_length hj]; simp; omega, h.up.put hj hlo hhi, fun y => ?_⟩
  rw [mem_put, h.mem]
  constructor
  · rintro (e | ⟨z, h1, h2⟩)
    · exact ⟨x, by simp, hb, e.symm⟩
    · exact ⟨z, List.mem_append_left _ h1, h2⟩
  · rintro ⟨z, h1, h2, h3⟩
    rcases List.mem_append.1 h1 with h1 | h1
    · exact .inr ⟨z, h1, h2, h3⟩
    · rw [List.mem_singleton.1 h1] at h3
      exact .inl h3.symm
theorem WSt.unique {t : List (Int × Bool)} {b : Bool} {us vs : List Int} (h : WSt t b us) (h' : WSt t b vs) : us = vs := h.up.ext h'.up fun y => by rw [h.mem, h'.mem]
end Go.Proofs.Ytokldnmhhhaalaa
