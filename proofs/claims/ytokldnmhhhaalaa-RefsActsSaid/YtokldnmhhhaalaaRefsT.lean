
/- refs: what counts and flushes make of the table. Plain: no program. -/
import Derived.Test.YtokldnmhhhaalaaRefs7
namespace Go.Proofs.Ytokldnmhhhaalaa
open Go.RowKit
set_option maxHeartbeats 1000000

/-- Is every flag up, but core c's? -/
def upB (T : Int → Int → Int) (o c : Int) : Nat → Bool
  | 0 => true
  | k + 1 => upB T o c k && ((k : Int) == c || T k o != 0)
theorem upB_iff {T : Int → Int → Int} {o c : Int} {k : Nat} : upB T o c k = true ↔ ∀ r : Nat, r < k → (r : Int) ≠ c → T r o ≠ 0 := by
  induction k with
  | zero => simp [upB]
  | succ k ih =>
    unfold upB
    rw [Bool.and_eq_true, ih, Bool.or_eq_true]
    constructor
    · rintro ⟨h1, h2⟩ r hr hne
      by_cases e : r = k
      · subst e
        rcases h2 with h2 | h2
        · exact absurd (by simpa using h2) hne
        · simpa using h2
      · exact h1 r (by omega) hne
    · intro h
      refine ⟨fun r hr hne => h r (by omega) hne, ?_⟩
      by_cases e : (k : Int) = c
      · left; simpa using e
      · right; simpa using h k (by omega) e
/-- What is known of an object behind core c's parts. -/
def knF (T : Int → Int → Int) (n : Nat) (c j : Int) : Int := if T c j = 0 then T ((n : Int) + 1) j else add2 (T ((n : Int) + 1) j)
/-- The table behind a flush of core c. -/
def flushT (T : Int → Int → Int) (n : Nat) (o c : Int) : Int → Int → Int := fun r i =>
  if i < o then (if r = c then 0 else if r = n then T n i + T c i else if r = (n : Int) + 1 then (if upB T o c n = true then nextK (T n i + T c i) (knF T n c i) (bitOf (cntO T o n) i.toNat) else knF T n c i) else T r i)
  else if i = o then (if upB T o c n = true then (if r < n then 0 else if r = n then T n o + 1 else T r o) else if r = c then 1 else T r o)
  else T r i

theorem flushK_lt {T : Int → Int → Int} {n : Nat} {o c : Int} (ho : 0 ≤ o) (r i : Int) (hi : i < o) : upd2 (flushK T n c o.toNat) c o 1 r i = if r = c then 0 else if r = n then T n i + T c i else if r = (n : Int) + 1 then knF T n c i else T r i := by
  simp only [upd2, flushK, knF]
  rw [if_neg (by omega), if_pos (by omega)]
theorem flushK_ge {T : Int → Int → Int} {n : Nat} {o c : Int} (ho : 0 ≤ o) (r i : Int) (hi : o ≤ i) : upd2 (flushK T n c o.toNat) c o 1 r i = if r = c ∧ i = o then 1 else T r i := by
  simp only [upd2, flushK]
  by_cases e : r = c ∧ i = o
  · rw [if_pos e, if_pos e]
  · rw [if_neg e, if_neg e, if_neg (by omega)]
theorem cntO_congr {T T' : Int → Int → Int} {o : Int} {k : Nat} (h : ∀ r : Nat, r < k → T r (o + 1) = T' r (o + 1)) : cntO T o k = cntO T' o k := by
  induction k with
  | zero => rfl
  | succ k ih => unfold cntO; rw [ih fun r hr => h r (by omega), h k (by omega)]
theorem FlushR.eq {T T' : Int → Int → Int} {n : Nat} {o c : Int} (h : FlushR T T' n o c) (hc : 0 ≤ c ∧ c < n) (ho : 1 ≤ o) (r i : Int) (hr : 0 ≤ r) : T' r i = flushT T n o c r i := by
  have ho0 : 0 ≤ o := by omega
  have hge := flushK_ge (T := T) (n := n) (o := o) (c := c) ho0
  have hlt := flushK_lt (T := T) (n := n) (o := o) (c := c) ho0
  have hcnt : cntO (upd2 (flushK T n c o.toNat) c o 1) o n = cntO T o n := cntO_congr fun r hr => by rw [hge _ _ (by omega), if_neg (by omega)]
  unfold FlushR at h
  generalize upd2 (flushK T n c o.toNat) c o 1 = T1 at *
  rcases h with ⟨hall, rfl⟩ | ⟨⟨r0, hr0, hz⟩, rfl⟩
  · have hup : upB T o c n = true := upB_iff.2 fun r hr hne => by
      have := hall r hr
      rw [hge _ _ (by omega), if_neg (fun h => hne h.1)] at this
      exact this
    unfold flushT
    rw [if_pos hup, if_pos hup]
    simp only [endT, upd2, endK]
    by_cases hio : i < o
    · rw [if_pos hio, if_neg (by omega), if_neg (by omega)]
      by_cases er : r = (n : Int) + 1
      · subst er
        rw [if_pos ⟨rfl, by omega⟩, if_neg (by omega), if_neg (by omega), if_pos rfl, hcnt, hlt _ _ hio, hlt _ _ hio, if_neg (by omega), if_pos rfl, if_neg (by omega), if_neg (by omega), if_pos rfl]
      · rw [if_neg (fun h => er h.1), hlt _ _ hio, if_neg er, if_neg er]
    · rw [if_neg hio]
      by_cases eio : i = o
      · subst eio
        rw [if_pos rfl]
        by_cases er : r < (n : Int)
        · rw [if_neg (by omega), if_pos ⟨rfl, er⟩, if_pos er]
        · rw [if_neg er]
          by_cases er2 : r = n
          · subst er2
            rw [if_pos ⟨rfl, rfl⟩, if_pos rfl, hge _ _ (by omega), if_neg (by omega)]
          · rw [if_neg (fun h => er2 h.1), if_neg (by omega), if_neg (by omega), if_neg er2, hge _ _ (by omega), if_neg (by omega)]
      · rw [if_neg eio, if_neg (by omega), if_neg (by omega), if_neg (by omega), hge _ _ (by omega), if_neg (by omega)]
  · have hup : ¬ upB T o c n = true := fun hu => by
      rw [hge _ _ (by omega)] at hz
      by_cases e : (r0 : Int) = c
      · rw [if_pos ⟨e, rfl⟩] at hz; omega
      · rw [if_neg (fun h => e h.1)] at hz
        exact upB_iff.1 hu r0 hr0 e hz
    unfold flushT
    rw [if_neg hup, if_neg hup]
    by_cases hio : i < o
    · rw [if_pos hio, hlt _ _ hio]
    · rw [if_neg hio, hge _ _ (by omega)]
      by_cases eio : i = o
      · subst eio
        rw [if_pos rfl]
        by_cases er : r = c
        · rw [if_pos ⟨er, rfl⟩, if_pos er]
        · rw [if_neg (fun h => er h.1), if_neg er]
      · rw [if_neg (fun h => eio h.2), if_neg eio]

/-- The table's numbers are small: behind i acts. -/
structure TOk (T : Int → Int → Int) (n : Nat) (o i : Int) : Prop where
  i0 : 0 ≤ i ∧ i ≤ 900
  part : ∀ r j : Int, 0 ≤ r → r < n → 0 ≤ j → j < o → -i ≤ T r j ∧ T r j ≤ i
  glob : ∀ j, 0 ≤ j → j < o → -(1000 * i) ≤ T n j ∧ T n j ≤ 1000 * i
  ep : 0 ≤ T n o ∧ T n o ≤ i
  kn : ∀ j, 0 ≤ j → j < o → 0 ≤ T ((n : Int) + 1) j ∧ T ((n : Int) + 1) j ≤ 7
  ever : ∀ r : Nat, r < n → W62 (T r (o + 1))

theorem TOk.zero {n : Nat} {o : Int} : TOk (fun _ _ => 0) n o 0 :=
  ⟨by omega, by intros; omega, by intros; omega, by omega, by intros; omega, by intros; unfold W62; omega⟩
theorem TOk.mono {T : Int → Int → Int} {n : Nat} {o i i' : Int} (h : TOk T n o i) (h1 : i ≤ i') (h2 : i' ≤ 900) : TOk T n o i' := by
  refine ⟨⟨by have := h.i0; omega, h2⟩, fun r j a b c d => ?_, fun j a b => ?_, ?_, h.kn, h.ever⟩
  · have := h.part r j a b c d; omega
  · have := h.glob j a b; omega
  · have := h.ep; omega
theorem TOk.count {T : Int → Int → Int} {n : Nat} {o i : Int} (h : TOk T n o i) (hi : i < 900) (ho : 1 ≤ o ∧ o ≤ 60) {c j b : Int} (hc : 0 ≤ c ∧ c < n) (hj : 0 ≤ j ∧ j < o) (hb : b = 1 ∨ b = -1) : TOk (cntT T o c j (T c j + b)) n o (i + 1) := by
  have h0 := h.i0
  have ce : ∀ r k : Int, k < o + 1 → cntT T o c j (T c j + b) r k = if r = c ∧ k = j then T c j + b else T r k := fun r k hk => by
    simp only [cntT, upd2]
    rw [if_neg (by omega)]
  refine ⟨by omega, fun r k r0 r1 k0 k1 => ?_, fun k k0 k1 => ?_, ?_, fun k k0 k1 => ?_, fun r hr => ?_⟩
  · rw [ce _ _ (by omega)]
    have h1 := h.part r k r0 r1 k0 k1
    have h2 := h.part c j hc.1 hc.2 hj.1 hj.2
    split <;> omega
  · rw [ce _ _ (by omega), if_neg (by omega)]
    have := h.glob k k0 k1
    omega
  · rw [ce _ _ (by omega), if_neg (by omega)]
    have := h.ep
    omega
  · rw [ce _ _ (by omega), if_neg (by omega)]
    exact h.kn k k0 k1
  · simp only [cntT, upd2]
    split
    · rename_i e
      obtain ⟨e, _⟩ := e
      exact orI_W62 (by rw [← e]; exact h.ever r hr) (pow_W62 (by omega))
    · rw [if_neg (by omega)]
      exact h.ever r hr
theorem nextK_bd (g kn : Int) (b : Bool) : 0 ≤ nextK g kn b ∧ nextK g kn b ≤ 7 := by
  unfold nextK
  split
  · split <;> omega
  · omega
theorem knF_bd {T : Int → Int → Int} {n : Nat} {c j : Int} (h : 0 ≤ T ((n : Int) + 1) j ∧ T ((n : Int) + 1) j ≤ 7) : 0 ≤ knF T n c j ∧ knF T n c j ≤ 7 := by
  unfold knF add2
  split <;> omega
theorem TOk.flush {T : Int → Int → Int} {n : Nat} {o i : Int} (h : TOk T n o i) (hi : i < 900) {c : Int} (hc : 0 ≤ c ∧ c < n) : TOk (flushT T n o c) n o (i + 1) := by
  have h0 := h.i0
  refine ⟨by omega, fun r k r0 r1 k0 k1 => ?_, fun k k0 k1 => ?_, ?_, fun k k0 k1 => ?_, fun r hr => ?_⟩
  · unfold flushT
    rw [if_pos k1]
    have h1 := h.part r k r0 r1 k0 k1
    rw [if_neg (show ¬ r = (n : Int) by omega), if_neg (show ¬ r = (n : Int) + 1 by omega)]
    split <;> omega
  · unfold flushT
    rw [if_pos k1, if_neg (by omega), if_pos rfl]
    have h1 := h.part c k hc.1 hc.2 k0 k1
    have h2 := h.glob k k0 k1
    omega
  · unfold flushT
    rw [if_neg (by omega), if_pos rfl]
    have := h.ep
    split
    · rw [if_neg (by omega), if_pos rfl]; omega
    · rw [if_neg (by omega)]; omega
  · unfold flushT
    rw [if_pos k1, if_neg (by omega), if_neg (by omega), if_pos rfl]
    split
    · exact nextK_bd _ _ _
    · exact knF_bd (h.kn k k0 k1)
  · unfold flushT
    rw [if_neg (by omega), if_neg (by omega)]
    exact h.ever r hr

/-- A sum over cores. -/
def sumP (T : Int → Int → Int) (j : Int) : Nat → Int
  | 0 => 0
  | k + 1 => sumP T j k + T k j
theorem TOk.sum_bd {T : Int → Int → Int} {n : Nat} {o i : Int} (h : TOk T n o i) {j : Int} (hj : 0 ≤ j ∧ j < o) (k : Nat) (hk : k ≤ n) : -(1000 * k) ≤ sumP T j k ∧ sumP T j k ≤ 1000 * k := by
  induction k with
  | zero => simp [sumP]
  | succ k ih =>
    have h1 := ih (by omega)
    have h2 := h.part k j (by omega) (by omega) hj.1 hj.2
    have h0 := h.i0
    unfold sumP
    omega
/-- The objects that are told dead. -/
def deads (T : Int → Int → Int) (n : Nat) : Nat → List Int
  | 0 => []
  | k + 1 => if T ((n : Int) + 1) k / 4 % 2 = 0 then deads T n k else deads T n k ++ [(k : Int)]
theorem deads_le (T : Int → Int → Int) (n k : Nat) : (deads T n k).length ≤ k := by
  induction k with
  | zero => exact Nat.le_refl _
  | succ k ih =>
    unfold deads
    split
    · omega
    · simp; omega
end Go.Proofs.Ytokldnmhhhaalaa
