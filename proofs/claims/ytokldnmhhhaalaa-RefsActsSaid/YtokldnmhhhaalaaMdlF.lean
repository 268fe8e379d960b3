
/- law6: the model's flush. -/
import Derived.Test.YtokldnmhhhaalaaMdl
namespace Go.Proofs.Ytokldnmhhhaalaa
open Go.RowKit
set_option maxHeartbeats 1000000

/-- In the midst of core c's flush: k objects are done. -/
def mf1 (M : Md) (c k : Nat) : Md := { M with
  parts := fun r j => if r = c ∧ j < k then 0 else M.parts r j
  glob := fun j => if j < k then M.glob j + M.parts c j else M.glob j
  added := fun j => if j < k then M.added j || M.parts c j != 0 else M.added j }
theorem Md.ext_ {M M' : Md} (h1 : M.parts = M'.parts) (h2 : M.glob = M'.glob) (h3 : M.fl = M'.fl) (h4 : M.added = M'.added) (h5 : M.zero = M'.zero) (h6 : M.ever = M'.ever) (h7 : M.dead = M'.dead) (h8 : M.ep = M'.ep) : M = M' := by
  obtain ⟨a1, a2, a3, a4, a5, a6, a7, a8⟩ := M
  obtain ⟨b1, b2, b3, b4, b5, b6, b7, b8⟩ := M'
  simp only at h1 h2 h3 h4 h5 h6 h7 h8
  subst h1 h2 h3 h4 h5 h6 h7 h8
  rfl
def mDies (M : Md) (j : Nat) : Bool := M.zero j && !M.added j && M.glob j == 0 && M.ever j
/-- In the midst of an epoch's end: k objects are done. -/
def mf2 (M : Md) (k : Nat) : Md := { M with
  dead := fun j => if j < k then M.dead j || mDies M j else M.dead j
  zero := fun j => if j < k then M.glob j == 0 else M.zero j
  added := fun j => if j < k then false else M.added j }
def mf3 (M : Md) (k : Nat) : Md := { M with fl := fun j => if j < k then false else M.fl j }
def mfM (M : Md) (c o : Nat) : Md := { mf1 M c o with fl := updN M.fl c true }
def mEnd (M : Md) (n o : Nat) : Md := mf3 (mf2 { M with ep := M.ep + 1 } o) n
theorem lt_succ_cases {A : Type} {j k : Nat} {x y : A} : (if j < k + 1 then x else y) = if j < k then x else if j = k then x else y := by
  by_cases h : j < k
  · rw [if_pos h, if_pos (by omega)]
  · rw [if_neg h]
    by_cases e : j = k
    · rw [if_pos e, if_pos (by omega)]
    · rw [if_neg e, if_neg (by omega)]
theorem mf1_zero (M : Md) (c : Nat) : mf1 M c 0 = M := by
  unfold mf1
  have h1 : (fun r j => if r = c ∧ j < 0 then 0 else M.parts r j) = M.parts := by funext r j; rw [if_neg (by omega)]
  have h2 : (fun j => if j < 0 then M.glob j + M.parts c j else M.glob j) = M.glob := by funext j; rw [if_neg (by omega)]
  have h3 : (fun j => if j < 0 then M.added j || M.parts c j != 0 else M.added j) = M.added := by funext j; rw [if_neg (by omega)]
  rw [h1, h2, h3]
theorem mf1_same {M : Md} {c k : Nat} (hz : M.parts c k = 0) : mf1 M c (k + 1) = mf1 M c k := by
  unfold mf1
  congr 1
  · funext r j
    by_cases e : r = c ∧ j = k
    · obtain ⟨rfl, rfl⟩ := e
      rw [if_pos ⟨rfl, by omega⟩, if_neg (by omega), hz]
    · by_cases e2 : r = c ∧ j < k
      · rw [if_pos e2, if_pos ⟨e2.1, by omega⟩]
      · rw [if_neg e2, if_neg (by omega)]
  · funext j
    rw [lt_succ_cases]
    by_cases h : j < k
    · rw [if_pos h, if_pos h]
    · rw [if_neg h, if_neg h]
      by_cases e : j = k
      · subst e; rw [if_pos rfl, hz]; omega
      · rw [if_neg e]
  · funext j
    rw [lt_succ_cases]
    by_cases h : j < k
    · rw [if_pos h, if_pos h]
    · rw [if_neg h, if_neg h]
      by_cases e : j = k
      · subst e; rw [if_pos rfl, hz]; simp
      · rw [if_neg e]
theorem mf1_next {M : Md} {c k : Nat} (hz : M.parts c k ≠ 0) : ({ mf1 M c k with glob := updN (mf1 M c k).glob k (M.glob k + M.parts c k), parts := updP (mf1 M c k).parts c k 0, added := updN (mf1 M c k).added k true } : Md) = mf1 M c (k + 1) := by
  refine Md.ext_ ?_ ?_ rfl ?_ rfl rfl rfl rfl
  · funext r j
    simp only [updP, mf1]
    by_cases e : r = c ∧ j = k
    · rw [if_pos e, if_pos ⟨e.1, by omega⟩]
    · rw [if_neg e]
      by_cases e2 : r = c ∧ j < k
      · rw [if_pos e2, if_pos ⟨e2.1, by omega⟩]
      · rw [if_neg e2, if_neg (by omega)]
  · funext j
    simp only [updN, mf1]
    rw [lt_succ_cases]
    by_cases e : j = k
    · subst e; rw [if_pos rfl, if_neg (by omega), if_pos rfl]
    · rw [if_neg e, if_neg e]
  · funext j
    simp only [updN, mf1]
    rw [lt_succ_cases]
    by_cases e : j = k
    · subst e
      have : (M.parts c j != 0) = true := by simpa using hz
      rw [if_pos rfl, if_neg (by omega), if_pos rfl, this, Bool.or_true]
    · rw [if_neg e, if_neg e]
theorem mf2_zero (M : Md) : mf2 M 0 = M := by
  unfold mf2
  have h1 : (fun j => if j < 0 then M.dead j || mDies M j else M.dead j) = M.dead := by funext j; rw [if_neg (by omega)]
  have h2 : (fun j => if j < 0 then M.glob j == 0 else M.zero j) = M.zero := by funext j; rw [if_neg (by omega)]
  have h3 : (fun j => if j < 0 then false else M.added j) = M.added := by funext j; rw [if_neg (by omega)]
  rw [h1, h2, h3]
theorem mf2_next {M : Md} {k : Nat} {d : Nat → Bool} (hd : d = if mDies M k = true then updN (mf2 M k).dead k true else (mf2 M k).dead) : ({ mf2 M k with dead := d, zero := updN (mf2 M k).zero k (M.glob k == 0), added := updN (mf2 M k).added k false } : Md) = mf2 M (k + 1) := by
  refine Md.ext_ rfl rfl rfl ?_ ?_ rfl ?_ rfl
  · funext j
    simp only [updN, mf2]
    rw [lt_succ_cases]
    by_cases e : j = k
    · subst e; rw [if_pos rfl, if_neg (by omega), if_pos rfl]
    · rw [if_neg e, if_neg e]
  · funext j
    simp only [updN, mf2]
    rw [lt_succ_cases]
    by_cases e : j = k
    · subst e; rw [if_pos rfl, if_neg (by omega), if_pos rfl]
    · rw [if_neg e, if_neg e]
  · subst hd
    funext j
    simp only [mf2]
    rw [lt_succ_cases]
    by_cases hb : mDies M k = true
    · rw [if_pos hb]
      simp only [updN]
      by_cases e : j = k
      · subst e; rw [if_pos rfl, if_neg (by omega), if_pos rfl, hb, Bool.or_true]
      · rw [if_neg e, if_neg e]
    · rw [if_neg hb]
      by_cases e : j = k
      · subst e
        have hb' : mDies M j = false := by simpa using hb
        rw [if_neg (by omega), if_neg (by omega), if_pos rfl, hb', Bool.or_false]
      · rw [if_neg e]
theorem mf3_zero (M : Md) : mf3 M 0 = M := by
  unfold mf3
  have h1 : (fun j => if j < 0 then false else M.fl j) = M.fl := by funext j; rw [if_neg (by omega)]
  rw [h1]
theorem mf3_next {M : Md} {k : Nat} : ({ mf3 M k with fl := updN (mf3 M k).fl k false } : Md) = mf3 M (k + 1) := by
  refine Md.ext_ rfl rfl ?_ rfl rfl rfl rfl rfl
  funext j
  simp only [updN, mf3]
  rw [lt_succ_cases]
  by_cases e : j = k
  · subst e; rw [if_pos rfl, if_neg (by omega), if_pos rfl]
  · rw [if_neg e, if_neg e]

/-- A step into the model's blocks alone. -/
structure MS (w wr : World) (B : Mb) (n o : Nat) (M : Md) : Prop where
  at_ : MdAt wr B n o M
  keeps : Keeps (fun x => ¬ mbS B n x) w wr
  size : wr.heap.size = w.heap.size
section
variable {w wr : World} {B : Mb} {n o : Nat} {M : Md}
theorem Keeps.setIn {L : Nat → Prop} {w w' : World} (h : Keeps L w w') {p : Addr} (hp : ¬ L p.block) (u : Value) : Keeps L w (w'.setCell p u) := h.setCell hp u
theorem MS.drewN (h : MS w wr B n o M) (d : Nat) : MS w (wr.drewN d) B n o M := ⟨h.at_.move fun _ _ => rfl, h.keeps.drewN d, h.size⟩
theorem MS.setGlob (h : MS w wr B n o M) (i : Nat) (v : Int) : MS w (wr.setCell ⟨B.bg, i, none⟩ (.int .i64 v)) B n o { M with glob := updN M.glob i v } :=
  ⟨h.at_.setGlob i v, h.keeps.setCell (fun hn => hn (.inr (.inr (.inl rfl)))) _, by simpa [World.setCell] using h.size⟩
theorem MS.setPart (h : MS w wr B n o M) {c : Nat} (hc : c < n) (i : Nat) (v : Int) : MS w (wr.setCell ⟨B.rb c, i, none⟩ (.int .i64 v)) B n o { M with parts := updP M.parts c i v } :=
  ⟨h.at_.setPart hc i v, h.keeps.setCell (fun hn => hn (.inr (.inr (.inr (.inr (.inr (.inr (.inr (.inr ⟨c, hc, rfl⟩))))))))) _, by simpa [World.setCell] using h.size⟩
theorem MS.setEp (h : MS w wr B n o M) (v : Int) : MS w (wr.setCell ⟨B.b, 7, none⟩ (.int .i64 v)) B n o { M with ep := v } :=
  ⟨h.at_.setEp v, h.keeps.setCell (fun hn => hn (.inl rfl)) _, by simpa [World.setCell] using h.size⟩
theorem MS.setFl (h : MS w wr B n o M) (i : Nat) (v : Bool) : MS w (wr.setCell ⟨B.bf, i, none⟩ (.bool v)) B n o { M with fl := updN M.fl i v } :=
  ⟨h.at_.setFl i v, h.keeps.setCell (fun hn => hn (.inr (.inr (.inr (.inl rfl))))) _, by simpa [World.setCell] using h.size⟩
theorem MS.setAdded (h : MS w wr B n o M) (i : Nat) (v : Bool) : MS w (wr.setCell ⟨B.ba, i, none⟩ (.bool v)) B n o { M with added := updN M.added i v } :=
  ⟨h.at_.setAdded i v, h.keeps.setCell (fun hn => hn (.inr (.inr (.inr (.inr (.inl rfl)))))) _, by simpa [World.setCell] using h.size⟩
theorem MS.setZero (h : MS w wr B n o M) (i : Nat) (v : Bool) : MS w (wr.setCell ⟨B.bz, i, none⟩ (.bool v)) B n o { M with zero := updN M.zero i v } :=
  ⟨h.at_.setZero i v, h.keeps.setCell (fun hn => hn (.inr (.inr (.inr (.inr (.inr (.inl rfl))))))) _, by simpa [World.setCell] using h.size⟩
theorem MS.setEver (h : MS w wr B n o M) (i : Nat) (v : Bool) : MS w (wr.setCell ⟨B.be, i, none⟩ (.bool v)) B n o { M with ever := updN M.ever i v } :=
  ⟨h.at_.setEver i v, h.keeps.setCell (fun hn => hn (.inr (.inr (.inr (.inr (.inr (.inr (.inl rfl)))))))) _, by simpa [World.setCell] using h.size⟩
theorem MS.setDead (h : MS w wr B n o M) (i : Nat) (v : Bool) : MS w (wr.setCell ⟨B.bd, i, none⟩ (.bool v)) B n o { M with dead := updN M.dead i v } :=
  ⟨h.at_.setDead i v, h.keeps.setCell (fun hn => hn (.inr (.inr (.inr (.inr (.inr (.inr (.inr (.inl rfl))))))))) _, by simpa [World.setCell] using h.size⟩
theorem MS.to {M' : Md} (h : MS w wr B n o M) (he : M = M') : MS w wr B n o M' := he ▸ h
theorem MS.h0 (h : MS w wr B n o M) : wr.cell? ⟨B.b, 0, none⟩ = some (.slice (some ⟨B.bp, 0, none⟩) n n) := h.at_.c_ 0
theorem MS.h1 (h : MS w wr B n o M) : wr.cell? ⟨B.b, 1, none⟩ = some (.slice (some ⟨B.bg, 0, none⟩) o o) := h.at_.c_ 1
theorem MS.h2 (h : MS w wr B n o M) : wr.cell? ⟨B.b, 2, none⟩ = some (.slice (some ⟨B.bf, 0, none⟩) n n) := h.at_.c_ 2
theorem MS.h3 (h : MS w wr B n o M) : wr.cell? ⟨B.b, 3, none⟩ = some (.slice (some ⟨B.ba, 0, none⟩) o o) := h.at_.c_ 3
theorem MS.h4 (h : MS w wr B n o M) : wr.cell? ⟨B.b, 4, none⟩ = some (.slice (some ⟨B.bz, 0, none⟩) o o) := h.at_.c_ 4
theorem MS.h5 (h : MS w wr B n o M) : wr.cell? ⟨B.b, 5, none⟩ = some (.slice (some ⟨B.be, 0, none⟩) o o) := h.at_.c_ 5
theorem MS.h6 (h : MS w wr B n o M) : wr.cell? ⟨B.b, 6, none⟩ = some (.slice (some ⟨B.bd, 0, none⟩) o o) := h.at_.c_ 6
theorem MS.h7 (h : MS w wr B n o M) : wr.cell? ⟨B.b, 7, none⟩ = some (.int .i64 M.ep) := h.at_.c_ 7
end
end Go.Proofs.Ytokldnmhhhaalaa
