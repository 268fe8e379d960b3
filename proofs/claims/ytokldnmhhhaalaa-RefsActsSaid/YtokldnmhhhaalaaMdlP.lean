
/- law6: the model agrees with the table. Plain: no walk. -/
import Derived.Test.YtokldnmhhhaalaaMdlW
namespace Go.Proofs.Ytokldnmhhhaalaa
open Go.RowKit
set_option maxHeartbeats 1000000

structure Agr (T : Int → Int → Int) (M : Md) (n o : Nat) : Prop where
  part : ∀ c j : Nat, c < n → j < o → M.parts c j = T c j
  glob : ∀ j : Nat, j < o → M.glob j = T n j
  fl : ∀ c : Nat, c < n → M.fl c = (T c o != 0)
  added : ∀ j : Nat, j < o → M.added j = decide (T ((n : Int) + 1) j / 2 % 2 = 1)
  zero : ∀ j : Nat, j < o → M.zero j = decide (T ((n : Int) + 1) j % 2 = 1)
  ever : ∀ j : Nat, j < o → M.ever j = bitOf (cntO T o n) j
  dead : ∀ j : Nat, j < o → M.dead j = decide (T ((n : Int) + 1) j / 4 % 2 = 1)
  ep : M.ep = T n o

def md0 : Md := ⟨fun _ _ => 0, fun _ => 0, fun _ => false, fun _ => false, fun _ => false, fun _ => false, fun _ => false, 0⟩
theorem cntO_const (o : Int) (n : Nat) : cntO (fun _ _ => 0) o n = 0 := cntO_zero fun _ _ => rfl
theorem Agr.start (n o : Nat) : Agr (fun _ _ => 0) md0 n o :=
  ⟨fun _ _ _ _ => rfl, fun _ _ => rfl, fun _ _ => rfl, fun _ _ => rfl, fun _ _ => rfl, fun j _ => by rw [cntO_const, bitOf_zero]; rfl, fun _ _ => rfl, rfl⟩

theorem bitOf_cnt {T : Int → Int → Int} {o v : Int} {c j : Nat} (i : Nat) : ∀ n : Nat, bitOf (cntO (cntT T o c j v) o n) i = (bitOf (cntO T o n) i || (decide (c < n) && decide (i = j)))
  | 0 => by simp [cntO]
  | n + 1 => by
    unfold cntO
    rw [bitOf_orI, bitOf_orI, bitOf_cnt i n]
    by_cases e : n = c
    · subst e
      have h1 : cntT T o (n : Int) j v n (o + 1) = orI (T n (o + 1)) ((2 ^ j : Nat) : Int) := by simp [cntT, upd2]
      rw [h1, bitOf_orI, bitOf_pow]
      by_cases hij : i = j
      · subst hij; simp
      · have : j ≠ i := fun h => hij h.symm
        simp [hij, this]
    · have h1 : cntT T o (c : Int) j v n (o + 1) = T n (o + 1) := by
        simp only [cntT, upd2]
        rw [if_neg (by omega)]
        by_cases h2 : (n : Int) = c ∧ o + 1 = (j : Int)
        · omega
        · rw [if_neg h2]
      rw [h1]
      by_cases hc : c < n
      · have hc2 : c < n + 1 := by omega
        simp [hc, hc2]
        cases bitOf (cntO T o n) i <;> cases bitOf (T n (o + 1)) i <;> simp
      · have hc2 : ¬ c < n + 1 := by omega
        simp [hc, hc2]
theorem Agr.count {T : Int → Int → Int} {M : Md} {n o : Nat} (h : Agr T M n o) {c j : Nat} {v : Int} (hc : c < n) (hj : j < o) : Agr (cntT T o c j v) { M with parts := updP M.parts c j v, ever := updN M.ever j true } n o := by
  have ce : ∀ r k : Int, k ≤ o → cntT T o c j v r k = if r = c ∧ k = j then v else T r k := fun r k hk => cntT_row r k hk
  refine ⟨fun r k hr hk => ?_, fun k hk => ?_, fun r hr => ?_, fun k hk => ?_, fun k hk => ?_, fun k hk => ?_, fun k hk => ?_, ?_⟩
  · rw [ce _ _ (by omega)]
    show updP M.parts c j v r k = _
    unfold updP
    by_cases e : r = c ∧ k = j
    · rw [if_pos e, if_pos (by omega)]
    · rw [if_neg e, if_neg (by omega)]; exact h.part r k hr hk
  · rw [ce _ _ (by omega), if_neg (by omega)]; exact h.glob k hk
  · rw [ce _ _ (by omega), if_neg (by omega)]; exact h.fl r hr
  · rw [ce _ _ (by omega), if_neg (by omega)]; exact h.added k hk
  · rw [ce _ _ (by omega), if_neg (by omega)]; exact h.zero k hk
  · rw [bitOf_cnt, ← h.ever k hk]
    show updN M.ever j true k = _
    unfold updN
    by_cases e : k = j
    · rw [if_pos e]; simp [hc, e]
    · rw [if_neg e]; simp [e]
  · rw [ce _ _ (by omega), if_neg (by omega)]; exact h.dead k hk
  · rw [ce _ _ (by omega), if_neg (by omega)]; exact h.ep
theorem add2_bits (kn : Int) : add2 kn % 2 = kn % 2 ∧ add2 kn / 2 % 2 = 1 ∧ add2 kn / 4 % 2 = kn / 4 % 2 := by
  unfold add2
  omega
theorem Agr.up {T : Int → Int → Int} {M : Md} {n o c : Nat} (h : Agr T M n o) : mUp (mfM M c o) n ↔ upB T o c n = true := by
  rw [upB_iff]
  have e : ∀ r, (mfM M c o).fl r = if r = c then true else M.fl r := fun r => rfl
  constructor
  · intro hu r hr hne
    have h1 := hu r hr
    rw [e, if_neg (by omega), h.fl r hr] at h1
    simpa using h1
  · intro hu r hr
    rw [e]
    by_cases er : r = c
    · rw [if_pos er]
    · rw [if_neg er, h.fl r hr]
      simpa using hu r hr (by omega)
theorem knF_bits {T : Int → Int → Int} {n : Nat} {c j : Int} : knF T n c j % 2 = T ((n : Int) + 1) j % 2 ∧ knF T n c j / 4 % 2 = T ((n : Int) + 1) j / 4 % 2 ∧ knF T n c j / 2 % 2 = (if T c j = 0 then T ((n : Int) + 1) j / 2 % 2 else 1) := by
  unfold knF
  split
  · exact ⟨rfl, rfl, rfl⟩
  · have := add2_bits (T ((n : Int) + 1) j)
    exact ⟨this.1, this.2.2, this.2.1⟩
theorem Agr.flush {T : Int → Int → Int} {M M' : Md} {n o c : Nat} (h : Agr T M n o) (hc : c < n) (hF : mFl M M' c n o) : Agr (flushT T n o c) M' n o := by
  have hcnt : cntO (flushT T n o c) o n = cntO T o n := cntO_congr fun r hr => by unfold flushT; rw [if_neg (by omega), if_neg (by omega)]
  rcases hF with ⟨hu, rfl⟩ | ⟨⟨r0, hr0, hz⟩, rfl⟩
  · have hup := h.up.1 hu
    refine ⟨fun r k hr hk => ?_, fun k hk => ?_, fun r hr => ?_, fun k hk => ?_, fun k hk => ?_, fun k hk => ?_, fun k hk => ?_, ?_⟩
    · unfold flushT
      rw [if_pos (by omega)]
      show (if r = c ∧ k < o then 0 else M.parts r k) = _
      by_cases e : r = c
      · rw [if_pos ⟨e, hk⟩, if_pos (by omega)]
      · rw [if_neg (fun h => e h.1), if_neg (by omega), if_neg (by omega), if_neg (by omega)]; exact h.part r k hr hk
    · unfold flushT
      rw [if_pos (by omega), if_neg (by omega), if_pos rfl]
      show (if k < o then M.glob k + M.parts c k else M.glob k) = _
      rw [if_pos hk, h.glob k hk, h.part c k hc hk]
    · unfold flushT
      rw [if_neg (by omega), if_pos rfl, if_pos hup, if_pos (by omega)]
      show (if r < n then false else _) = _
      rw [if_pos hr]; rfl
    · unfold flushT
      rw [if_pos (by omega), if_neg (by omega), if_neg (by omega), if_pos rfl, if_pos hup]
      show (if k < o then false else _) = _
      rw [if_pos hk]
      unfold nextK
      split
      · split
        · rfl
        · have : (knF T n c k / 4 % 2 * 4 + 1) / 2 % 2 = 0 := by omega
          rw [this]; rfl
      · have : (knF T n c k / 4 % 2 * 4) / 2 % 2 = 0 := by omega
        rw [this]; rfl
    · unfold flushT
      rw [if_pos (by omega), if_neg (by omega), if_neg (by omega), if_pos rfl, if_pos hup]
      show (if k < o then (if k < o then M.glob k + M.parts c k else M.glob k) == 0 else _) = _
      rw [if_pos hk, if_pos hk, h.glob k hk, h.part c k hc hk]
      unfold nextK
      by_cases hg : T n k + T c k = 0
      · rw [if_pos hg, hg]
        split
        · rfl
        · have : (knF T n c k / 4 % 2 * 4 + 1) % 2 = 1 := by omega
          rw [this]; rfl
      · rw [if_neg hg]
        have : (knF T n c k / 4 % 2 * 4) % 2 = 0 := by omega
        rw [this]
        simpa using hg
    · rw [hcnt]; exact h.ever k hk
    · unfold flushT
      rw [if_pos (by omega), if_neg (by omega), if_neg (by omega), if_pos rfl, if_pos hup]
      show (if k < o then (M.dead k || (M.zero k && !(if k < o then M.added k || M.parts c k != 0 else M.added k) && (if k < o then M.glob k + M.parts c k else M.glob k) == 0 && M.ever k)) else _) = _
      rw [if_pos hk, if_pos hk, if_pos hk, h.glob k hk, h.part c k hc hk, h.dead k hk, h.zero k hk, h.added k hk, h.ever k hk, Int.toNat_natCast]
      obtain ⟨b1, b2, b3⟩ := knF_bits (T := T) (n := n) (c := c) (j := k)
      unfold nextK
      generalize bitOf (cntO T o n) k = ev
      rw [b1, b2, b3]
      generalize hkn : T ((n : Int) + 1) k = kn
      generalize T (n : Int) k + T (c : Int) k = g
      by_cases hp : T (c : Int) k = 0
      · rw [hp]
        by_cases hg : g = 0
        · rw [if_pos hg, hg, if_pos rfl]
          have d1 : kn % 2 = 0 ∨ kn % 2 = 1 := by omega
          have d2 : kn / 2 % 2 = 0 ∨ kn / 2 % 2 = 1 := by omega
          have d3 : kn / 4 % 2 = 0 ∨ kn / 4 % 2 = 1 := by omega
          rcases d1 with h1 | h1 <;> rcases d2 with h2 | h2 <;> rcases d3 with h3 | h3 <;> cases ev <;> rw [h1, h2, h3] <;> rfl
        · rw [if_neg hg]
          have hg2 : (g == 0) = false := by simpa using hg
          rw [hg2]
          by_cases h3 : kn / 4 % 2 = 1 <;> simp [h3] <;> omega
      · rw [if_neg hp]
        have hp2 : (T (c : Int) k != 0) = true := by simpa using hp
        rw [hp2, Bool.or_true]
        by_cases h3 : kn / 4 % 2 = 1 <;> by_cases hg : g = 0 <;> simp [h3, hg] <;> omega
    · unfold flushT
      rw [if_neg (by omega), if_pos rfl, if_pos hup, if_neg (by omega), if_pos rfl, ← h.ep]; rfl
  · have hup : ¬ upB T o c n = true := fun hu => by
      have := h.up.2 hu r0 hr0
      rw [hz] at this
      cases this
    refine ⟨fun r k hr hk => ?_, fun k hk => ?_, fun r hr => ?_, fun k hk => ?_, fun k hk => ?_, fun k hk => ?_, fun k hk => ?_, ?_⟩
    · unfold flushT
      rw [if_pos (by omega)]
      show (if r = c ∧ k < o then 0 else M.parts r k) = _
      by_cases e : r = c
      · rw [if_pos ⟨e, hk⟩, if_pos (by omega)]
      · rw [if_neg (fun h => e h.1), if_neg (by omega), if_neg (by omega), if_neg (by omega)]; exact h.part r k hr hk
    · unfold flushT
      rw [if_pos (by omega), if_neg (by omega), if_pos rfl]
      show (if k < o then M.glob k + M.parts c k else M.glob k) = _
      rw [if_pos hk, h.glob k hk, h.part c k hc hk]
    · unfold flushT
      rw [if_neg (by omega), if_pos rfl, if_neg hup]
      show (if r = c then true else M.fl r) = _
      by_cases e : r = c
      · rw [if_pos e, if_pos (by omega)]; rfl
      · rw [if_neg e, if_neg (by omega)]; exact h.fl r hr
    · unfold flushT
      rw [if_pos (by omega), if_neg (by omega), if_neg (by omega), if_pos rfl, if_neg hup, (knF_bits (T := T) (n := n) (c := c) (j := k)).2.2]
      show (if k < o then M.added k || M.parts c k != 0 else M.added k) = _
      rw [if_pos hk, h.added k hk, h.part c k hc hk]
      by_cases hp : T (c : Int) k = 0
      · rw [hp]; simp
      · have hp2 : (T (c : Int) k != 0) = true := by simpa using hp
        rw [if_neg hp, hp2, Bool.or_true]; rfl
    · unfold flushT
      rw [if_pos (by omega), if_neg (by omega), if_neg (by omega), if_pos rfl, if_neg hup, (knF_bits (T := T) (n := n) (c := c) (j := k)).1]
      exact h.zero k hk
    · rw [hcnt]; exact h.ever k hk
    · unfold flushT
      rw [if_pos (by omega), if_neg (by omega), if_neg (by omega), if_pos rfl, if_neg hup, (knF_bits (T := T) (n := n) (c := c) (j := k)).2.1]
      exact h.dead k hk
    · unfold flushT
      rw [if_neg (by omega), if_pos rfl, if_neg hup, if_neg (by omega)]; exact h.ep
/-- The model's dead. -/
def mdeads (M : Md) : Nat → List Int
  | 0 => []
  | k + 1 => if M.dead k = true then mdeads M k ++ [(k : Int)] else mdeads M k
theorem mdeads_le (M : Md) (k : Nat) : (mdeads M k).length ≤ k := by
  induction k with
  | zero => exact Nat.le_refl _
  | succ k ih =>
    unfold mdeads
    split
    · simp; omega
    · omega
theorem Agr.deads {T : Int → Int → Int} {M : Md} {n o : Nat} (h : Agr T M n o) : ∀ k, k ≤ o → mdeads M k = deads T n k
  | 0, _ => rfl
  | k + 1, hk => by
    unfold mdeads Proofs.Ytokldnmhhhaalaa.deads
    rw [Agr.deads h k (by omega), h.dead k (by omega)]
    by_cases e : T ((n : Int) + 1) k / 4 % 2 = 0
    · rw [if_pos e, if_neg (by simp; omega)]
    · rw [if_neg e, if_pos (by simp; omega)]
/-- The model's sums. -/
def msum (M : Md) (j : Nat) : Nat → Int
  | 0 => M.glob j
  | k + 1 => msum M j k + M.parts k j
theorem Agr.msum {T : Int → Int → Int} {M : Md} {n o : Nat} (h : Agr T M n o) {j : Nat} (hj : j < o) : ∀ k, k ≤ n → msum M j k = T n j + sumP T j k
  | 0, _ => by unfold Proofs.Ytokldnmhhhaalaa.msum sumP; rw [h.glob j hj]; omega
  | k + 1, hk => by unfold Proofs.Ytokldnmhhhaalaa.msum sumP; rw [Agr.msum h hj k (by omega), h.part k j (by omega) hj]; omega
end Go.Proofs.Ytokldnmhhhaalaa
