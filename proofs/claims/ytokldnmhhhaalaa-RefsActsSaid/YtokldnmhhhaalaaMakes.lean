
/- A region that draws its order and makes several slices at once: whatever the order, each is a new block of its own. No program. -/
import Derived.Test.YtokldnmhhhaalaaBase
import Derived.Orders
namespace Go.Proofs.Ytokldnmhhhaalaa
open Go.RowKit

/-- A make among a region's operations: its number, its slot, its length, its element's type, its cells. -/
structure Mk where
  i : Nat
  d : Nat
  n : Nat
  e : TypeId
  cs : Array Value
def Mk.val (m : Mk) (g : Nat) : Value := .slice (some ⟨g, 0, none⟩) m.n m.n

def allMasks : Nat → List (List Bool)
  | 0 => [[]]
  | n + 1 => (allMasks n).map (false :: ·) ++ (allMasks n).map (true :: ·)
theorem mem_allMasks : ∀ (D : List Bool), D ∈ allMasks D.length
  | [] => by simp [allMasks]
  | b :: D => by
    have := mem_allMasks D
    simp only [List.length_cons, allMasks, List.mem_append, List.mem_map]
    cases b
    · exact .inl ⟨D, this, rfl⟩
    · exact .inr ⟨D, this, rfl⟩

/-- Whoever is ready is one of the makes that is not done; done, it is listed. -/
def mkChk (md : Region.Mode) (ops : Array Oper) (ls : List Nat) (Lst : List Bool → Array Bool) (D : List Bool) : Bool :=
  D.all id || (!(Region.ready md ops (Lst D)).isEmpty && (Region.ready md ops (Lst D)).all fun i => (List.range D.length).any fun k => ls[k]? == some i && D[k]? == some false && (Lst D).setIfInBounds i true == Lst (D.set k true))

/-- What stands behind some of the makes. -/
structure MkJ (M : List Mk) (a0 : Act) (w0 : World) (D : List Bool) (g : Nat → Nat) (a : Act) (w : World) : Prop where
  defers : a.defers = a0.defers
  size : a.tmps.size = a0.tmps.size
  same : ∀ t : Nat, (∀ m ∈ M, m.d ≠ t) → a.tmps[t]? = a0.tmps[t]?
  got : ∀ (k : Nat) (m : Mk), M[k]? = some m → D[k]? = some true → a.tmps[m.d]? = some (m.val (g k)) ∧ w0.heap.size ≤ g k ∧ g k < w.heap.size ∧ Blk w (g k) m.e m.cs
  apart : ∀ j k : Nat, D[j]? = some true → D[k]? = some true → j ≠ k → g j ≠ g k
  below : Below w0.heap.size w0 w

theorem wpAny_makes {P : Program} {md : Region.Mode} {ops : Array Oper} {Q : Exit → Act → World → Prop} (M : List Mk) (Lst : List Bool → Array Bool) (a0 : Act) (w0 : World)
    (hsz : ∀ m ∈ M, m.d < a0.tmps.size) (hnd : ∀ (j k : Nat) (m m' : Mk), M[j]? = some m → M[k]? = some m' → j ≠ k → m.d ≠ m'.d)
    (hops : ∀ m ∈ M, ∃ o, ops[m.i]? = some o ∧ o.dst = some m.d ∧ ∀ a : Act, (∀ t : Nat, (∀ m ∈ M, m.d ≠ t) → a.tmps[t]? = a0.tmps[t]?) → Region.wanted o (yielded ops a.tmps) = true ∧
      ∀ w : World, (execOp a.eval o).run P w = .ok (.value (m.val w.heap.size)) (w.alloc (.cells m.cs m.e)))
    (hchk : ((allMasks M.length).all (mkChk md ops (M.map (·.i)) Lst)) = true) (fuel : Nat)
    (hend : ∀ (g : Nat → Nat) (a : Act) (w : World), MkJ M a0 w0 (List.replicate M.length true) g a w → wpAny P md ops Q fuel (Lst (List.replicate M.length true)) a w) :
    ∀ (c : Nat) (D : List Bool) (g : Nat → Nat) (a : Act) (w : World), D.length = M.length → D.count false = c → MkJ M a0 w0 D g a w → wpAny P md ops Q (fuel + c) (Lst D) a w := by
  intro c
  induction c with
  | zero =>
    intro D g a w hl hc hJ
    have hD : D = List.replicate M.length true := by
      rw [List.eq_replicate_iff]
      refine ⟨hl, fun b hb => ?_⟩
      cases b
      · exact absurd hb (List.count_eq_zero.1 hc)
      · rfl
    subst hD
    exact hend g a w hJ
  | succ c ih =>
    intro D g a w hl hc hJ
    have hm : D ∈ allMasks M.length := hl ▸ mem_allMasks D
    have h1 := List.all_eq_true.1 hchk D hm
    unfold mkChk at h1
    rw [Bool.or_eq_true] at h1
    have hno : ¬ D.all id = true := fun h => by
      have : D.count false = 0 := List.count_eq_zero.2 fun hf => by
        have := List.all_eq_true.1 h false hf
        simp at this
      omega
    have h2 := (Bool.and_eq_true _ _ ▸ h1.resolve_left hno : _ ∧ _)
    obtain ⟨hne, hall⟩ := h2
    have hne' : Region.ready md ops (Lst D) ≠ [] := by
      intro e
      rw [e] at hne
      simp at hne
    refine ⟨fun h => absurd h hne', fun i hi => ?_⟩
    have h3 := List.all_eq_true.1 hall i hi
    obtain ⟨k, hk, h4⟩ := List.any_eq_true.1 h3
    rw [Bool.and_eq_true, Bool.and_eq_true] at h4
    obtain ⟨⟨hki, hkd⟩, hset⟩ := h4
    have hki := eq_of_beq hki
    have hkd := eq_of_beq hkd
    have hset := eq_of_beq hset
    obtain ⟨m, hmk, rfl⟩ : ∃ m, M[k]? = some m ∧ m.i = i := by
      rw [List.getElem?_map] at hki
      rcases hx : M[k]? with _ | m
      · rw [hx] at hki; cases hki
      · rw [hx] at hki; exact ⟨m, rfl, Option.some.inj hki⟩
    have hmM : m ∈ M := List.mem_of_getElem? hmk
    obtain ⟨o, ho, hd, hrun⟩ := hops m hmM
    obtain ⟨hw, hr⟩ := hrun a hJ.same
    have hkl : k < D.length := by
      rcases Nat.lt_or_ge k D.length with h | h
      · exact h
      · rw [List.getElem?_eq_none h] at hkd; cases hkd
    unfold wpOp
    simp only [ho, hw, if_true]
    left
    unfold Oper.wp
    rw [hr w]
    show wpAny P md ops Q (fuel + c) ((Lst D).setIfInBounds m.i true) (a.put o.dst (m.val w.heap.size)) (w.alloc (.cells m.cs m.e))
    rw [hset, hd]
    have hmd := hsz m hmM
    have hmd' : m.d < a.tmps.size := by rw [hJ.size]; exact hmd
    refine ih (D.set k true) (fun j => if j = k then w.heap.size else g j) _ _ (by simpa using hl) ?_ ?_
    · have := List.count_set (a := true) (b := false) (i := k) (l := D) hkl
      rw [this]
      have hx : D[k] = false := by rw [List.getElem?_eq_getElem hkl] at hkd; exact Option.some.inj hkd
      rw [hx]
      simp
      omega
    · have getD : ∀ j, (D.set k true)[j]? = some true → j = k ∨ D[j]? = some true := fun j hj => by
        by_cases e : j = k
        · exact .inl e
        · right; rwa [List.getElem?_set_ne (Ne.symm e)] at hj
      refine ⟨hJ.defers, by simp [Act.put, hJ.size], fun t ht => ?_, fun j m' hj hDj => ?_, fun j1 j2 h1 h2 hne => ?_, ?_⟩
      · show (a.tmps.setIfInBounds m.d _)[t]? = _
        rw [Array.getElem?_setIfInBounds_ne (ht m hmM)]
        exact hJ.same t ht
      · by_cases e : j = k
        · subst e
          rw [hmk] at hj
          obtain rfl := Option.some.inj hj
          refine ⟨?_, ?_, ?_, ?_⟩
          · show (a.tmps.setIfInBounds m.d _)[m.d]? = _
            rw [Array.getElem?_setIfInBounds_self_of_lt hmd', if_pos rfl]
          · rw [if_pos rfl]; exact hJ.below.size
          · rw [if_pos rfl]; simp
          · rw [if_pos rfl]; exact Blk.new _ _ _
        · have hDj' : D[j]? = some true := by rcases getD j hDj with h | h; exact absurd h e; exact h
          obtain ⟨g1, g2, g3, g4⟩ := hJ.got j m' hj hDj'
          rw [if_neg e]
          refine ⟨?_, g2, ?_, g4.alloc _⟩
          · show (a.tmps.setIfInBounds m.d _)[m'.d]? = _
            rw [Array.getElem?_setIfInBounds_ne (hnd k j m m' hmk hj (Ne.symm e))]
            exact g1
          · simp; omega
      · have lt : ∀ j, j ≠ k → D[j]? = some true → g j < w.heap.size := fun j hjk hj => by
          have hjl : j < M.length := by
            rcases Nat.lt_or_ge j D.length with h | h
            · omega
            · rw [List.getElem?_eq_none h] at hj; cases hj
          exact (hJ.got j M[j] (List.getElem?_eq_getElem hjl) hj).2.2.1
        by_cases e1 : j1 = k
        · have e2 : j2 ≠ k := fun e => hne (e1.trans e.symm)
          have h2' : D[j2]? = some true := by rcases getD j2 h2 with h | h; exact absurd h e2; exact h
          have := lt j2 e2 h2'
          rw [if_pos e1, if_neg e2]; omega
        · have h1' : D[j1]? = some true := by rcases getD j1 h1 with h | h; exact absurd h e1; exact h
          have l1 := lt j1 e1 h1'
          by_cases e2 : j2 = k
          · rw [if_neg e1, if_pos e2]; omega
          · have h2' : D[j2]? = some true := by rcases getD j2 h2 with h | h; exact absurd h e2; exact h
            rw [if_neg e1, if_neg e2]
            exact hJ.apart j1 j2 h1' h2' hne
      · exact hJ.below.alloc hJ.below.size _

/-- The slots written. -/
def putAll (t : Array Value) : List (Nat × Value) → Array Value
  | [] => t
  | (d, v) :: l => putAll (t.setIfInBounds d v) l
theorem putAll_size (l : List (Nat × Value)) : ∀ t : Array Value, (putAll t l).size = t.size := by
  induction l with
  | nil => intro t; rfl
  | cons x l ih => intro t; unfold putAll; rw [ih]; simp
theorem putAll_other (l : List (Nat × Value)) : ∀ (t : Array Value) (i : Nat), (∀ x ∈ l, x.1 ≠ i) → (putAll t l)[i]? = t[i]? := by
  induction l with
  | nil => intro t i _; rfl
  | cons x l ih =>
    intro t i h
    unfold putAll
    rw [ih _ _ fun y hy => h y (List.mem_cons_of_mem _ hy), Array.getElem?_setIfInBounds_ne (h x (List.mem_cons_self))]
theorem putAll_at (l : List (Nat × Value)) : ∀ (t : Array Value) (d : Nat) (v : Value), (d, v) ∈ l → (l.map (·.1)).Nodup → d < t.size → (putAll t l)[d]? = some v := by
  induction l with
  | nil => intro t d v h; cases h
  | cons x l ih =>
    intro t d v h hn hd
    rw [List.map_cons, List.nodup_cons] at hn
    unfold putAll
    rcases List.mem_cons.1 h with rfl | h
    · rw [putAll_other _ _ _ fun y hy e => hn.1 (List.mem_map.2 ⟨y, hy, e⟩), Array.getElem?_setIfInBounds_self_of_lt hd]
    · exact ih _ d v h hn.2 (by simpa using hd)
/-- The frame behind all makes. -/
theorem MkJ.act {M : List Mk} {a0 : Act} {w0 : World} {g : Nat → Nat} {a : Act} {w : World} (h : MkJ M a0 w0 (List.replicate M.length true) g a w) (hsz : ∀ m ∈ M, m.d < a0.tmps.size) (hn : (M.map (·.d)).Nodup) {l : List (Nat × Value)} (hl : l = M.mapIdx fun k m => (m.d, m.val (g k))) :
    a = { a0 with tmps := putAll a0.tmps l } := by
  subst hl
  have hmap : (M.mapIdx fun k m => (m.d, m.val (g k))).map (·.1) = M.map (·.d) := by
    apply List.ext_getElem?
    intro k
    simp
    rcases M[k]? with _ | m <;> rfl
  have ht : a.tmps = putAll a0.tmps (M.mapIdx fun k m => (m.d, m.val (g k))) := by
    apply Array.ext_getElem?
    intro t
    by_cases e : ∃ m ∈ M, m.d = t
    · obtain ⟨m, hm, rfl⟩ := e
      obtain ⟨k, hk, rfl⟩ := List.getElem_of_mem hm
      have h1 := (h.got k _ (List.getElem?_eq_getElem hk) (by rw [List.getElem?_replicate, if_pos hk])).1
      rw [h1, putAll_at _ _ _ _ (List.mem_mapIdx.2 ⟨k, hk, rfl⟩) (by rw [hmap]; exact hn) (hsz _ hm)]
    · rw [h.same t fun m hm he => e ⟨m, hm, he⟩, putAll_other]
      intro x hx hxt
      obtain ⟨k, hk, rfl⟩ := List.mem_mapIdx.1 hx
      exact e ⟨_, List.getElem_mem hk, hxt⟩
  have hd := h.defers
  obtain ⟨at1, ad⟩ := a
  obtain ⟨bt, bd⟩ := a0
  simp only at ht hd
  rw [ht, hd]
end Go.Proofs.Ytokldnmhhhaalaa
