
/- law6: the model as it lies in memory (written by wip/genmdl.py). -/
import Derived.Test.YtokldnmhhhaalaaLawRFl
namespace Go.Proofs.Ytokldnmhhhaalaa
open Go.RowKit
set_option maxHeartbeats 1000000

def updN {A : Type} (f : Nat → A) (i : Nat) (v : A) : Nat → A := fun j => if j = i then v else f j
def rowI (o : Nat) (f : Nat → Int) : List Int := (List.range o).map f
def rowB (o : Nat) (f : Nat → Bool) : List Bool := (List.range o).map f
theorem rowI_len (o : Nat) (f : Nat → Int) : (rowI o f).length = o := by simp [rowI]
theorem rowB_len (o : Nat) (f : Nat → Bool) : (rowB o f).length = o := by simp [rowB]
theorem rowI_at {o : Nat} (f : Nat → Int) {i : Nat} (hi : i < o) : nth (rowI o f) i = f i := by simp [rowI, nth, List.getD, hi]
theorem rowB_at {o : Nat} (f : Nat → Bool) {i : Nat} (hi : i < o) : (rowB o f).getD i false = f i := by simp [rowB, List.getD, hi]
theorem rowI_set {o : Nat} (f : Nat → Int) (i : Nat) (v : Int) : (rowI o f).set i v = rowI o (updN f i v) := by
  apply List.ext_getElem?
  intro j
  unfold rowI updN
  rw [List.getElem?_set]
  by_cases e : i = j
  · subst e
    rw [if_pos rfl]
    by_cases h : i < o <;> simp [h]
  · rw [if_neg e]
    by_cases h : j < o <;> simp [h, Ne.symm e]
theorem rowB_set {o : Nat} (f : Nat → Bool) (i : Nat) (v : Bool) : (rowB o f).set i v = rowB o (updN f i v) := by
  apply List.ext_getElem?
  intro j
  unfold rowB updN
  rw [List.getElem?_set]
  by_cases e : i = j
  · subst e
    rw [if_pos rfl]
    by_cases h : i < o <;> simp [h]
  · rw [if_neg e]
    by_cases h : j < o <;> simp [h, Ne.symm e]

/-- The model. -/
structure Md where
  parts : Nat → Nat → Int
  glob : Nat → Int
  fl : Nat → Bool
  added : Nat → Bool
  zero : Nat → Bool
  ever : Nat → Bool
  dead : Nat → Bool
  ep : Int
/-- Where it lies. -/
structure Mb where
  b : Nat
  bp : Nat
  bg : Nat
  bf : Nat
  ba : Nat
  bz : Nat
  be : Nat
  bd : Nat
  rb : Nat → Nat
def updP (f : Nat → Nat → Int) (c i : Nat) (v : Int) : Nat → Nat → Int := fun r j => if r = c ∧ j = i then v else f r j
def mdHead (B : Mb) (n o : Nat) (ep : Int) : Array Value := #[.slice (some ⟨B.bp, 0, none⟩) n n, .slice (some ⟨B.bg, 0, none⟩) o o, .slice (some ⟨B.bf, 0, none⟩) n n, .slice (some ⟨B.ba, 0, none⟩) o o, .slice (some ⟨B.bz, 0, none⟩) o o, .slice (some ⟨B.be, 0, none⟩) o o, .slice (some ⟨B.bd, 0, none⟩) o o, .int .i64 ep]
structure MdAt (w : World) (B : Mb) (n o : Nat) (M : Md) : Prop where
  hd : Blk w B.b 44 (mdHead B n o M.ep)
  pa : Blk w B.bp 22 ((List.range n).map fun c => Value.slice (some ⟨B.rb c, 0, none⟩) o o).toArray
  rw : ∀ c, c < n → BlkI w (B.rb c) (rowI o (M.parts c))
  gl : BlkI w B.bg (rowI o M.glob)
  dg : ∀ c, c < n → B.rb c ≠ B.bg
  dr : ∀ c d, c < n → d < n → c ≠ d → B.rb c ≠ B.rb d
  mfl : BlkB w B.bf (rowB n M.fl)
  madded : BlkB w B.ba (rowB o M.added)
  mzero : BlkB w B.bz (rowB o M.zero)
  mever : BlkB w B.be (rowB o M.ever)
  mdead : BlkB w B.bd (rowB o M.dead)
  nbfba : B.bf ≠ B.ba
  nbfbz : B.bf ≠ B.bz
  nbfbe : B.bf ≠ B.be
  nbfbd : B.bf ≠ B.bd
  nbabz : B.ba ≠ B.bz
  nbabe : B.ba ≠ B.be
  nbabd : B.ba ≠ B.bd
  nbzbe : B.bz ≠ B.be
  nbzbd : B.bz ≠ B.bd
  nbebd : B.be ≠ B.bd
/-- Its blocks. -/
def mbS (B : Mb) (n : Nat) (x : Nat) : Prop := x = B.b ∨ x = B.bp ∨ x = B.bg ∨ x = B.bf ∨ x = B.ba ∨ x = B.bz ∨ x = B.be ∨ x = B.bd ∨ ∃ c, c < n ∧ x = B.rb c
section
variable {w w' : World} {B : Mb} {n o : Nat} {M : Md}
theorem MdAt.c_ (h : MdAt w B n o M) (i : Nat) : w.cell? ⟨B.b, i, none⟩ = (mdHead B n o M.ep)[i]? := h.hd.cell i
theorem MdAt.cp (h : MdAt w B n o M) {c : Nat} (hc : c < n) : w.cell? ⟨B.bp, c, none⟩ = some (.slice (some ⟨B.rb c, 0, none⟩) o o) := by
  rw [h.pa.cell]; simp [hc]
theorem MdAt.cr (h : MdAt w B n o M) {c i : Nat} (hc : c < n) (hi : i < o) : w.cell? ⟨B.rb c, i, none⟩ = some (.int .i64 (M.parts c i)) := by
  have := (h.rw c hc).cell (i := i) (by rw [rowI_len]; exact hi)
  rwa [rowI_at _ hi] at this
theorem MdAt.fr (h : MdAt w B n o M) {c : Nat} (hc : c < n) (i : Nat) : w.frozen? ⟨B.rb c, i, none⟩ = false := (h.rw c hc).frozen i
theorem MdAt.cg (h : MdAt w B n o M) {i : Nat} (hi : i < o) : w.cell? ⟨B.bg, i, none⟩ = some (.int .i64 (M.glob i)) := by
  have := h.gl.cell (i := i) (by rw [rowI_len]; exact hi)
  rwa [rowI_at _ hi] at this
theorem MdAt.fg (h : MdAt w B n o M) (i : Nat) : w.frozen? ⟨B.bg, i, none⟩ = false := h.gl.frozen i
theorem MdAt.fh (h : MdAt w B n o M) (i : Nat) : w.frozen? ⟨B.b, i, none⟩ = false := h.hd.frozen i
theorem MdAt.cbf (h : MdAt w B n o M) {i : Nat} (hi : i < n) : w.cell? ⟨B.bf, i, none⟩ = some (.bool (M.fl i)) := by
  have := h.mfl.cell (i := i) (by rw [rowB_len]; exact hi)
  rwa [rowB_at _ hi] at this
theorem MdAt.fbf (h : MdAt w B n o M) (i : Nat) : w.frozen? ⟨B.bf, i, none⟩ = false := h.mfl.frozen i
theorem MdAt.cba (h : MdAt w B n o M) {i : Nat} (hi : i < o) : w.cell? ⟨B.ba, i, none⟩ = some (.bool (M.added i)) := by
  have := h.madded.cell (i := i) (by rw [rowB_len]; exact hi)
  rwa [rowB_at _ hi] at this
theorem MdAt.fba (h : MdAt w B n o M) (i : Nat) : w.frozen? ⟨B.ba, i, none⟩ = false := h.madded.frozen i
theorem MdAt.cbz (h : MdAt w B n o M) {i : Nat} (hi : i < o) : w.cell? ⟨B.bz, i, none⟩ = some (.bool (M.zero i)) := by
  have := h.mzero.cell (i := i) (by rw [rowB_len]; exact hi)
  rwa [rowB_at _ hi] at this
theorem MdAt.fbz (h : MdAt w B n o M) (i : Nat) : w.frozen? ⟨B.bz, i, none⟩ = false := h.mzero.frozen i
theorem MdAt.cbe (h : MdAt w B n o M) {i : Nat} (hi : i < o) : w.cell? ⟨B.be, i, none⟩ = some (.bool (M.ever i)) := by
  have := h.mever.cell (i := i) (by rw [rowB_len]; exact hi)
  rwa [rowB_at _ hi] at this
theorem MdAt.fbe (h : MdAt w B n o M) (i : Nat) : w.frozen? ⟨B.be, i, none⟩ = false := h.mever.frozen i
theorem MdAt.cbd (h : MdAt w B n o M) {i : Nat} (hi : i < o) : w.cell? ⟨B.bd, i, none⟩ = some (.bool (M.dead i)) := by
  have := h.mdead.cell (i := i) (by rw [rowB_len]; exact hi)
  rwa [rowB_at _ hi] at this
theorem MdAt.fbd (h : MdAt w B n o M) (i : Nat) : w.frozen? ⟨B.bd, i, none⟩ = false := h.mdead.frozen i
theorem MdAt.setFl (h : MdAt w B n o M) (i : Nat) (v : Bool) : MdAt (w.setCell ⟨B.bf, i, none⟩ (.bool v)) B n o { M with fl := updN M.fl i v } :=
  ⟨h.hd.far (by exact h.hd.ne_ (h.mfl : Blk w B.bf 4 _) (by decide)) _, h.pa.far (by exact h.pa.ne_ (h.mfl : Blk w B.bf 4 _) (by decide)) _, fun c hc => (h.rw c hc).far (by exact Blk.ne_ (h.rw c hc : Blk w (B.rb c) 3 _) (h.mfl : Blk w B.bf 4 _) (by decide)) _, h.gl.far (by exact Blk.ne_ (h.gl : Blk w B.bg 3 _) (h.mfl : Blk w B.bf 4 _) (by decide)) _, h.dg, h.dr, by have := h.mfl.set i v; rwa [rowB_set] at this, h.madded.far (Ne.symm h.nbfba) _, h.mzero.far (Ne.symm h.nbfbz) _, h.mever.far (Ne.symm h.nbfbe) _, h.mdead.far (Ne.symm h.nbfbd) _, h.nbfba, h.nbfbz, h.nbfbe, h.nbfbd, h.nbabz, h.nbabe, h.nbabd, h.nbzbe, h.nbzbd, h.nbebd⟩
theorem MdAt.setAdded (h : MdAt w B n o M) (i : Nat) (v : Bool) : MdAt (w.setCell ⟨B.ba, i, none⟩ (.bool v)) B n o { M with added := updN M.added i v } :=
  ⟨h.hd.far (by exact h.hd.ne_ (h.madded : Blk w B.ba 4 _) (by decide)) _, h.pa.far (by exact h.pa.ne_ (h.madded : Blk w B.ba 4 _) (by decide)) _, fun c hc => (h.rw c hc).far (by exact Blk.ne_ (h.rw c hc : Blk w (B.rb c) 3 _) (h.madded : Blk w B.ba 4 _) (by decide)) _, h.gl.far (by exact Blk.ne_ (h.gl : Blk w B.bg 3 _) (h.madded : Blk w B.ba 4 _) (by decide)) _, h.dg, h.dr, h.mfl.far h.nbfba _, by have := h.madded.set i v; rwa [rowB_set] at this, h.mzero.far (Ne.symm h.nbabz) _, h.mever.far (Ne.symm h.nbabe) _, h.mdead.far (Ne.symm h.nbabd) _, h.nbfba, h.nbfbz, h.nbfbe, h.nbfbd, h.nbabz, h.nbabe, h.nbabd, h.nbzbe, h.nbzbd, h.nbebd⟩
theorem MdAt.setZero (h : MdAt w B n o M) (i : Nat) (v : Bool) : MdAt (w.setCell ⟨B.bz, i, none⟩ (.bool v)) B n o { M with zero := updN M.zero i v } :=
  ⟨h.hd.far (by exact h.hd.ne_ (h.mzero : Blk w B.bz 4 _) (by decide)) _, h.pa.far (by exact h.pa.ne_ (h.mzero : Blk w B.bz 4 _) (by decide)) _, fun c hc => (h.rw c hc).far (by exact Blk.ne_ (h.rw c hc : Blk w (B.rb c) 3 _) (h.mzero : Blk w B.bz 4 _) (by decide)) _, h.gl.far (by exact Blk.ne_ (h.gl : Blk w B.bg 3 _) (h.mzero : Blk w B.bz 4 _) (by decide)) _, h.dg, h.dr, h.mfl.far h.nbfbz _, h.madded.far h.nbabz _, by have := h.mzero.set i v; rwa [rowB_set] at this, h.mever.far (Ne.symm h.nbzbe) _, h.mdead.far (Ne.symm h.nbzbd) _, h.nbfba, h.nbfbz, h.nbfbe, h.nbfbd, h.nbabz, h.nbabe, h.nbabd, h.nbzbe, h.nbzbd, h.nbebd⟩
theorem MdAt.setEver (h : MdAt w B n o M) (i : Nat) (v : Bool) : MdAt (w.setCell ⟨B.be, i, none⟩ (.bool v)) B n o { M with ever := updN M.ever i v } :=
  ⟨h.hd.far (by exact h.hd.ne_ (h.mever : Blk w B.be 4 _) (by decide)) _, h.pa.far (by exact h.pa.ne_ (h.mever : Blk w B.be 4 _) (by decide)) _, fun c hc => (h.rw c hc).far (by exact Blk.ne_ (h.rw c hc : Blk w (B.rb c) 3 _) (h.mever : Blk w B.be 4 _) (by decide)) _, h.gl.far (by exact Blk.ne_ (h.gl : Blk w B.bg 3 _) (h.mever : Blk w B.be 4 _) (by decide)) _, h.dg, h.dr, h.mfl.far h.nbfbe _, h.madded.far h.nbabe _, h.mzero.far h.nbzbe _, by have := h.mever.set i v; rwa [rowB_set] at this, h.mdead.far (Ne.symm h.nbebd) _, h.nbfba, h.nbfbz, h.nbfbe, h.nbfbd, h.nbabz, h.nbabe, h.nbabd, h.nbzbe, h.nbzbd, h.nbebd⟩
theorem MdAt.setDead (h : MdAt w B n o M) (i : Nat) (v : Bool) : MdAt (w.setCell ⟨B.bd, i, none⟩ (.bool v)) B n o { M with dead := updN M.dead i v } :=
  ⟨h.hd.far (by exact h.hd.ne_ (h.mdead : Blk w B.bd 4 _) (by decide)) _, h.pa.far (by exact h.pa.ne_ (h.mdead : Blk w B.bd 4 _) (by decide)) _, fun c hc => (h.rw c hc).far (by exact Blk.ne_ (h.rw c hc : Blk w (B.rb c) 3 _) (h.mdead : Blk w B.bd 4 _) (by decide)) _, h.gl.far (by exact Blk.ne_ (h.gl : Blk w B.bg 3 _) (h.mdead : Blk w B.bd 4 _) (by decide)) _, h.dg, h.dr, h.mfl.far h.nbfbd _, h.madded.far h.nbabd _, h.mzero.far h.nbzbd _, h.mever.far h.nbebd _, by have := h.mdead.set i v; rwa [rowB_set] at this, h.nbfba, h.nbfbz, h.nbfbe, h.nbfbd, h.nbabz, h.nbabe, h.nbabd, h.nbzbe, h.nbzbd, h.nbebd⟩
theorem MdAt.setGlob (h : MdAt w B n o M) (i : Nat) (v : Int) : MdAt (w.setCell ⟨B.bg, i, none⟩ (.int .i64 v)) B n o { M with glob := updN M.glob i v } :=
  ⟨h.hd.far (by exact h.hd.ne_ (h.gl : Blk w B.bg 3 _) (by decide)) _, h.pa.far (by exact h.pa.ne_ (h.gl : Blk w B.bg 3 _) (by decide)) _, fun c hc => (h.rw c hc).far (h.dg c hc) _, by have := h.gl.set i v; rwa [rowI_set] at this, h.dg, h.dr, h.mfl.far (by exact Blk.ne_ (h.mfl : Blk w B.bf 4 _) (h.gl : Blk w B.bg 3 _) (by decide)) _, h.madded.far (by exact Blk.ne_ (h.madded : Blk w B.ba 4 _) (h.gl : Blk w B.bg 3 _) (by decide)) _, h.mzero.far (by exact Blk.ne_ (h.mzero : Blk w B.bz 4 _) (h.gl : Blk w B.bg 3 _) (by decide)) _, h.mever.far (by exact Blk.ne_ (h.mever : Blk w B.be 4 _) (h.gl : Blk w B.bg 3 _) (by decide)) _, h.mdead.far (by exact Blk.ne_ (h.mdead : Blk w B.bd 4 _) (h.gl : Blk w B.bg 3 _) (by decide)) _, h.nbfba, h.nbfbz, h.nbfbe, h.nbfbd, h.nbabz, h.nbabe, h.nbabd, h.nbzbe, h.nbzbd, h.nbebd⟩
theorem MdAt.setPart (h : MdAt w B n o M) {c : Nat} (hc : c < n) (i : Nat) (v : Int) : MdAt (w.setCell ⟨B.rb c, i, none⟩ (.int .i64 v)) B n o { M with parts := updP M.parts c i v } :=
  ⟨h.hd.far (by exact h.hd.ne_ (h.rw c hc : Blk w (B.rb c) 3 _) (by decide)) _, h.pa.far (by exact h.pa.ne_ (h.rw c hc : Blk w (B.rb c) 3 _) (by decide)) _, fun d hd => by
    by_cases e : d = c
    · subst e
      have := (h.rw d hd).set i v
      rw [rowI_set] at this
      have e2 : updP M.parts d i v d = updN (M.parts d) i v := by funext j; simp [updP, updN]
      show BlkI _ _ (rowI o (updP M.parts d i v d))
      rw [e2]
      exact this
    · have e2 : updP M.parts c i v d = M.parts d := by funext j; simp [updP, e]
      show BlkI _ _ (rowI o (updP M.parts c i v d))
      rw [e2]
      exact (h.rw d hd).far (h.dr d c hd hc e) _, h.gl.far (Ne.symm (h.dg c hc)) _, h.dg, h.dr, h.mfl.far (by exact Blk.ne_ (h.mfl : Blk w B.bf 4 _) (h.rw c hc : Blk w (B.rb c) 3 _) (by decide)) _, h.madded.far (by exact Blk.ne_ (h.madded : Blk w B.ba 4 _) (h.rw c hc : Blk w (B.rb c) 3 _) (by decide)) _, h.mzero.far (by exact Blk.ne_ (h.mzero : Blk w B.bz 4 _) (h.rw c hc : Blk w (B.rb c) 3 _) (by decide)) _, h.mever.far (by exact Blk.ne_ (h.mever : Blk w B.be 4 _) (h.rw c hc : Blk w (B.rb c) 3 _) (by decide)) _, h.mdead.far (by exact Blk.ne_ (h.mdead : Blk w B.bd 4 _) (h.rw c hc : Blk w (B.rb c) 3 _) (by decide)) _, h.nbfba, h.nbfbz, h.nbfbe, h.nbfbd, h.nbabz, h.nbabe, h.nbabd, h.nbzbe, h.nbzbd, h.nbebd⟩
theorem MdAt.setEp (h : MdAt w B n o M) (v : Int) : MdAt (w.setCell ⟨B.b, 7, none⟩ (.int .i64 v)) B n o { M with ep := v } :=
  ⟨by have := h.hd.set_ 7 (.int .i64 v); exact this, h.pa.far (by exact h.pa.ne_ h.hd (by decide)) _, fun c hc => (h.rw c hc).far (by exact Blk.ne_ (h.rw c hc : Blk w (B.rb c) 3 _) h.hd (by decide)) _, h.gl.far (by exact Blk.ne_ (h.gl : Blk w B.bg 3 _) h.hd (by decide)) _, h.dg, h.dr, h.mfl.far (by exact Blk.ne_ (h.mfl : Blk w B.bf 4 _) h.hd (by decide)) _, h.madded.far (by exact Blk.ne_ (h.madded : Blk w B.ba 4 _) h.hd (by decide)) _, h.mzero.far (by exact Blk.ne_ (h.mzero : Blk w B.bz 4 _) h.hd (by decide)) _, h.mever.far (by exact Blk.ne_ (h.mever : Blk w B.be 4 _) h.hd (by decide)) _, h.mdead.far (by exact Blk.ne_ (h.mdead : Blk w B.bd 4 _) h.hd (by decide)) _, h.nbfba, h.nbfbz, h.nbfbe, h.nbfbd, h.nbabz, h.nbabe, h.nbabd, h.nbzbe, h.nbzbd, h.nbebd⟩
theorem MdAt.move (h : MdAt w B n o M) (hk : ∀ x, mbS B n x → w'.heap[x]? = w.heap[x]?) : MdAt w' B n o M :=
  ⟨Blk.of_heap (hk _ (.inl rfl)) h.hd, Blk.of_heap (hk _ (.inr (.inl rfl))) h.pa, fun c hc => Blk.of_heap (hk _ (.inr (.inr (.inr (.inr (.inr (.inr (.inr (.inr ⟨c, hc, rfl⟩))))))))) (h.rw c hc), Blk.of_heap (hk _ (.inr (.inr (.inl rfl)))) h.gl, h.dg, h.dr, Blk.of_heap (hk _ (.inr (.inr (.inr (.inl rfl))))) h.mfl, Blk.of_heap (hk _ (.inr (.inr (.inr (.inr (.inl rfl)))))) h.madded, Blk.of_heap (hk _ (.inr (.inr (.inr (.inr (.inr (.inl rfl))))))) h.mzero, Blk.of_heap (hk _ (.inr (.inr (.inr (.inr (.inr (.inr (.inl rfl)))))))) h.mever, Blk.of_heap (hk _ (.inr (.inr (.inr (.inr (.inr (.inr (.inr (.inl rfl))))))))) h.mdead, h.nbfba, h.nbfbz, h.nbfbe, h.nbfbd, h.nbabz, h.nbabe, h.nbabd, h.nbzbe, h.nbzbd, h.nbebd⟩
end
end Go.Proofs.Ytokldnmhhhaalaa
