
/- A core's share: the bits that tell which words are had, and where pieces begin. Plain: no program. -/
import Derived.Test.YtacjpchcaknacaaArP
import Derived.Test.YtacjpchcaknacaaBits2
namespace Go.Proofs.Ytacjpchcaknacaa
open Go.RowKit

def updB (g : Int → Bool) (j : Int) (v : Bool) : Int → Bool := fun q => if q = j then v else g q
/-- A share from word b on: k words of each kind of bits, z words to be had. -/
structure Sh (ws : List Int) (b k z : Int) (had beg : Int → Bool) : Prop where
  b0 : 0 ≤ b
  k0 : 0 ≤ k
  z0 : 0 ≤ z
  zk : z ≤ 62 * k
  fit : b + 2 * k + z ≤ ws.length
  w0 : ∀ i, 0 ≤ i → i < 2 * k → W62 (rd ws (b + i))
  h0 : ∀ j, 0 ≤ j → j < z → bitOf (rd ws (b + j / 62)) (j % 62).toNat = had j
  g0 : ∀ j, 0 ≤ j → j < z → bitOf (rd ws (b + k + j / 62)) (j % 62).toNat = beg j

section
variable {ws ws' : List Int} {b k z e : Int} {had beg : Int → Bool}
/-- Nothing outside a range has turned. -/
def Within (ws ws' : List Int) (b e : Int) : Prop := ws'.length = ws.length ∧ ∀ i, 0 ≤ i → i < b ∨ e ≤ i → rd ws' i = rd ws i
theorem Within.refl (ws : List Int) (b e : Int) : Within ws ws b e := ⟨rfl, fun _ _ _ => rfl⟩
theorem Within.trans {ws2 : List Int} (h : Within ws ws' b e) (h' : Within ws' ws2 b e) : Within ws ws2 b e := ⟨h'.1.trans h.1, fun i h0 hi => (h'.2 i h0 hi).trans (h.2 i h0 hi)⟩
theorem Within.wr {i v : Int} (h0 : 0 ≤ i ∧ i < ws.length) (h1 : b ≤ i) (h2 : i < e) : Within ws (wr ws i v) b e :=
  ⟨by simp, fun j j0 hj => by rw [rd_wr h0 j0, if_neg (by omega)]⟩
/-- A share that lies beside the range is as it was. -/
theorem Sh.keep {b' e' : Int} (h : Sh ws b k z had beg) (hw : Within ws ws' b' e') (hd : b + 2 * k + z ≤ b' ∨ e' ≤ b) : Sh ws' b k z had beg := by
  obtain ⟨q1, q2, q3, q4, q5, q6, q7, q8⟩ := h
  have same : ∀ i, 0 ≤ i → i < 2 * k + z → rd ws' (b + i) = rd ws (b + i) := fun i i0 i1 => hw.2 _ (by omega) (by omega)
  refine ⟨q1, q2, q3, q4, by rw [hw.1]; exact q5, fun i i0 i1 => ?_, fun j j0 j1 => ?_, fun j j0 j1 => ?_⟩
  · rw [same i i0 (by omega)]; exact q6 i i0 i1
  · rw [same _ (by omega) (by omega)]; exact q7 j j0 j1
  · rw [Int.add_assoc, same _ (by omega) (by omega), ← Int.add_assoc]; exact q8 j j0 j1
theorem Sh.had_at (h : Sh ws b k z had beg) {j : Int} (j0 : 0 ≤ j) (j1 : j < z) : (0 ≤ b + j / 62 ∧ b + j / 62 < ws.length) ∧ W62 (rd ws (b + j / 62)) ∧ bitOf (rd ws (b + j / 62)) (j % 62).toNat = had j := by
  have := h.fit; have := h.b0; have := h.zk
  exact ⟨⟨by omega, by omega⟩, h.w0 _ (by omega) (by omega), h.h0 j j0 j1⟩
theorem Sh.beg_at (h : Sh ws b k z had beg) {j : Int} (j0 : 0 ≤ j) (j1 : j < z) : (0 ≤ b + k + j / 62 ∧ b + k + j / 62 < ws.length) ∧ W62 (rd ws (b + k + j / 62)) ∧ bitOf (rd ws (b + k + j / 62)) (j % 62).toNat = beg j := by
  have := h.fit; have := h.b0; have := h.zk; have := h.k0
  refine ⟨⟨by omega, by omega⟩, ?_, h.g0 j j0 j1⟩
  rw [Int.add_assoc]
  exact h.w0 _ (by omega) (by omega)
theorem Sh.set0 (h : Sh ws b k z had beg) {j : Int} (j0 : 0 ≤ j) (j1 : j < z) (v : Bool) :
    Sh (wr ws (b + j / 62) (setBit (rd ws (b + j / 62)) (j % 62).toNat v)) b k z (updB had j v) beg := by
  obtain ⟨hin, hw, hv⟩ := h.had_at j0 j1
  obtain ⟨q1, q2, q3, q4, q5, q6, q7, q8⟩ := h
  refine ⟨q1, q2, q3, q4, by simpa using q5, fun i i0 i1 => ?_, fun i i0 i1 => ?_, fun i i0 i1 => ?_⟩
  · rw [rd_wr hin (by omega)]
    split
    · exact setBit_W62 hw (by omega)
    · exact q6 i i0 i1
  · rw [rd_wr hin (by omega)]
    unfold updB
    by_cases e1 : b + i / 62 = b + j / 62
    · rw [if_pos e1, bitOf_setBit (by omega) (by omega)]
      by_cases e2 : i = j
      · subst e2; rw [if_pos rfl, if_pos rfl]
      · rw [if_neg (by omega), if_neg e2, ← e1]; exact q7 i i0 i1
    · rw [if_neg e1, if_neg (by intro e2; subst e2; exact e1 rfl)]; exact q7 i i0 i1
  · rw [rd_wr hin (by omega), if_neg (by omega)]; exact q8 i i0 i1
theorem Sh.set1 (h : Sh ws b k z had beg) {j : Int} (j0 : 0 ≤ j) (j1 : j < z) (v : Bool) :
    Sh (wr ws (b + k + j / 62) (setBit (rd ws (b + k + j / 62)) (j % 62).toNat v)) b k z had (updB beg j v) := by
  obtain ⟨hin, hw, hv⟩ := h.beg_at j0 j1
  obtain ⟨q1, q2, q3, q4, q5, q6, q7, q8⟩ := h
  refine ⟨q1, q2, q3, q4, by simpa using q5, fun i i0 i1 => ?_, fun i i0 i1 => ?_, fun i i0 i1 => ?_⟩
  · rw [rd_wr hin (by omega)]
    split
    · exact setBit_W62 hw (by omega)
    · exact q6 i i0 i1
  · rw [rd_wr hin (by omega), if_neg (by omega)]; exact q7 i i0 i1
  · rw [rd_wr hin (by omega)]
    unfold updB
    by_cases e1 : b + k + i / 62 = b + k + j / 62
    · rw [if_pos e1, bitOf_setBit (by omega) (by omega)]
      by_cases e2 : i = j
      · subst e2; rw [if_pos rfl, if_pos rfl]
      · rw [if_neg (by omega), if_neg e2, ← e1]; exact q8 i i0 i1
    · rw [if_neg e1, if_neg (by intro e2; subst e2; exact e1 rfl)]; exact q8 i i0 i1
theorem Sh.store (h : Sh ws b k z had beg) {i : Int} (i0 : b + 2 * k ≤ i) (i1 : i < b + 2 * k + z) (v : Int) : Sh (wr ws i v) b k z had beg := by
  have hin : 0 ≤ i ∧ i < ws.length := by have := h.b0; have := h.k0; have := h.fit; omega
  obtain ⟨q1, q2, q3, q4, q5, q6, q7, q8⟩ := h
  refine ⟨q1, q2, q3, q4, by simpa using q5, fun j j0 j1 => ?_, fun j j0 j1 => ?_, fun j j0 j1 => ?_⟩
  · rw [rd_wr hin (by omega), if_neg (by omega)]; exact q6 j j0 j1
  · rw [rd_wr hin (by omega), if_neg (by omega)]; exact q7 j j0 j1
  · rw [rd_wr hin (by omega), if_neg (by omega)]; exact q8 j j0 j1
theorem Sh.zero (hb : 0 ≤ b) (hk : 0 ≤ k) (hz : 0 ≤ z) (hzk : z ≤ 62 * k) (hf : b + 2 * k + z ≤ ws.length) (h : ∀ i, b ≤ i → i < b + 2 * k → rd ws i = 0) : Sh ws b k z (fun _ => false) (fun _ => false) := by
  refine ⟨hb, hk, hz, hzk, hf, fun i i0 i1 => ?_, fun j j0 j1 => ?_, fun j j0 j1 => ?_⟩
  · rw [h _ (by omega) (by omega)]; unfold W62; omega
  · rw [h _ (by omega) (by omega), bitOf_zero]
  · rw [h _ (by omega) (by omega), bitOf_zero]
theorem Sh.congr {had' beg' : Int → Bool} (h : Sh ws b k z had beg) (h1 : ∀ j, 0 ≤ j → j < z → had j = had' j) (h2 : ∀ j, 0 ≤ j → j < z → beg j = beg' j) : Sh ws b k z had' beg' :=
  ⟨h.b0, h.k0, h.z0, h.zk, h.fit, h.w0, fun j j0 j1 => (h.h0 j j0 j1).trans (h1 j j0 j1), fun j j0 j1 => (h.g0 j j0 j1).trans (h2 j j0 j1)⟩
end

/-- No word of a range is had. -/
def Free (had : Int → Bool) (q n : Int) : Prop := ∀ j, q ≤ j → j < q + n → had j = false
/-- How a first fit goes: at place j, r words free behind one another. -/
structure Fit (had : Int → Bool) (n j r : Int) : Prop where
  r0 : 0 ≤ r
  rj : r ≤ j
  rn : r < n
  free : Free had (j - r) r
  none : ∀ q, 0 ≤ q → q < j - r → ¬ Free had q n
theorem Fit.start (had : Int → Bool) {n : Int} (hn : 1 ≤ n) : Fit had n 0 0 := ⟨by omega, by omega, by omega, fun j h1 h2 => by omega, fun q h1 h2 => by omega⟩
theorem Fit.hit {had : Int → Bool} {n j r : Int} (h : Fit had n j r) (hj : had j = true) : Fit had n (j + 1) 0 := by
  refine ⟨by omega, by have := h.rj; have := h.r0; omega, by have := h.rn; have := h.r0; omega, fun i h1 h2 => by omega, fun q q0 q1 hf => ?_⟩
  by_cases e1 : j < q + n
  · have := hf j (by omega) e1; rw [hj] at this; cases this
  · by_cases e2 : q < j - r
    · exact h.none q q0 e2 hf
    · have := h.rn; omega
theorem Fit.miss {had : Int → Bool} {n j r : Int} (h : Fit had n j r) (hj : had j = false) (hr : r + 1 < n) : Fit had n (j + 1) (r + 1) := by
  refine ⟨by have := h.r0; omega, by have := h.rj; omega, hr, fun i h1 h2 => ?_, fun q q0 q1 => h.none q q0 (by omega)⟩
  by_cases e : i = j
  · subst e; exact hj
  · exact h.free i (by omega) (by omega)
theorem Fit.found {had : Int → Bool} {n j r : Int} (h : Fit had n j r) (hj : had j = false) (hr : r + 1 = n) : Free had (j - r) n := by
  intro i h1 h2
  by_cases e : i = j
  · subst e; exact hj
  · exact h.free i (by omega) (by omega)
/-- The end of a piece that begins at j. -/
structure Piece (had beg : Int → Bool) (z j n : Int) : Prop where
  n1 : 1 ≤ n
  fit : j + n ≤ z
  mid : ∀ i, j < i → i < j + n → had i = true ∧ beg i = false
def upto (g : Int → Bool) (j n : Int) (v : Bool) : Int → Bool := fun q => if j ≤ q ∧ q < j + n then v else g q
theorem upto_zero (g : Int → Bool) (j : Int) (v : Bool) : upto g j 0 v = g := by
  funext q; unfold upto; rw [if_neg (by omega)]
theorem upto_next (g : Int → Bool) (j : Int) {n : Int} (hn : 0 ≤ n) (v : Bool) : updB (upto g j n v) (j + n) v = upto g j (n + 1) v := by
  funext q; unfold upto updB
  by_cases e : q = j + n
  · rw [if_pos e, if_pos (by omega)]
  · rw [if_neg e]
    simp only []
    by_cases e2 : j ≤ q ∧ q < j + n
    · rw [if_pos e2, if_pos (by omega)]
    · rw [if_neg e2, if_neg (by omega)]
end Go.Proofs.Ytacjpchcaknacaa
