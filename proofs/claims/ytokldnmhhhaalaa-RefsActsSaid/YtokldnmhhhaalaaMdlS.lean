
/- law6: both at the start. -/
import Derived.Test.YtokldnmhhhaalaaMdlR
import Derived.Test.YtokldnmhhhaalaaMakesT
namespace Go.Proofs.Ytokldnmhhhaalaa
open Go.RowKit
set_option maxHeartbeats 1000000

def nilsObj (n : Nat) : Array Value := (List.replicate n (Value.slice none 0 0)).toArray
def zerosI (n : Nat) : Array Value := (List.replicate n (Value.int .i64 0)).toArray
def zerosB (n : Nat) : Array Value := (List.replicate n (Value.bool false)).toArray
theorem zerosI_row {w : World} {g o : Nat} (h : Blk w g 3 (zerosI o)) : BlkI w g (rowI o fun _ => 0) := by
  have e : zerosI o = ((rowI o fun _ => 0).map (Value.int .i64)).toArray := by simp [zerosI, rowI, List.map_const']
  unfold BlkI
  rw [← e]; exact h
theorem zerosB_row {w : World} {g o : Nat} (h : Blk w g 4 (zerosB o)) : BlkB w g (rowB o fun _ => false) := by
  have e : zerosB o = ((rowB o fun _ => false).map Value.bool).toArray := by simp [zerosB, rowB, List.map_const']
  unfold BlkB
  rw [← e]; exact h

/-- The model's head and rows, before its parts are made. -/
structure Hd5 (w3 w5 : World) (g : Nat → Nat) (n o : Nat) : Prop where
  below : Below w3.heap.size w3 w5
  p0 : w3.heap.size ≤ g 0 ∧ g 0 < w5.heap.size ∧ Blk w5 (g 0) 22 (nilsObj n)
  p1 : w3.heap.size ≤ g 1 ∧ g 1 < w5.heap.size ∧ Blk w5 (g 1) 3 (zerosI o)
  p2 : w3.heap.size ≤ g 2 ∧ g 2 < w5.heap.size ∧ Blk w5 (g 2) 4 (zerosB n)
  p3 : ∀ i, 3 ≤ i → i ≤ 6 → w3.heap.size ≤ g i ∧ g i < w5.heap.size ∧ Blk w5 (g i) 4 (zerosB o)
  ne : ∀ i j, i < 7 → j < 7 → i ≠ j → g i ≠ g j

def mdVals (g : Nat → Nat) (n o : Nat) : Array Value := #[.slice (some ⟨g 0, 0, none⟩) n n, .slice (some ⟨g 1, 0, none⟩) o o, .slice (some ⟨g 2, 0, none⟩) n n, .slice (some ⟨g 3, 0, none⟩) o o, .slice (some ⟨g 4, 0, none⟩) o o, .slice (some ⟨g 5, 0, none⟩) o o, .slice (some ⟨g 6, 0, none⟩) o o, .int .i64 0]
def partVals (rb : Nat → Nat) (n o k : Nat) : Array Value := ((List.range n).map fun c => if c < k then Value.slice (some ⟨rb c, 0, none⟩) o o else .slice none 0 0).toArray
/-- k rows are made. -/
structure P1 (w5 wr : World) (g : Nat → Nat) (n o k : Nat) (rb : Nat → Nat) : Prop where
  keeps : Keeps (fun b => b < w5.heap.size ∧ b ≠ g 0) w5 wr
  hd : Blk wr w5.heap.size 44 (mdVals g n o)
  gt : w5.heap.size < wr.heap.size
  pa : Blk wr (g 0) 22 (partVals rb n o k)
  rows : ∀ c, c < k → Blk wr (rb c) 3 (zerosI o) ∧ w5.heap.size < rb c
  inj : ∀ c d, c < k → d < k → c ≠ d → rb c ≠ rb d

theorem P1.start {w3 w5 : World} {g : Nat → Nat} {n o : Nat} (h : Hd5 w3 w5 g n o) : P1 w5 (w5.alloc (.cells (mdVals g n o) 44)) g n o 0 (fun _ => 0) := by
  refine ⟨(Keeps.refl _ _).alloc (fun b hb => hb.1) _, Blk.new _ _ _, by simp, ?_, fun c hc => absurd hc (by omega), fun c d hc => absurd hc (by omega)⟩
  have e : partVals (fun _ => 0) n o 0 = nilsObj n := by
    unfold partVals nilsObj
    congr 1
    simp [List.map_const']
  rw [e]
  exact h.p0.2.2.alloc _
theorem P1.row {w5 wr : World} {g : Nat → Nat} {n o k : Nat} {rb : Nat → Nat} (h : P1 w5 wr g n o k rb) (hg : g 0 < w5.heap.size) (_hk : k < n) :
    P1 w5 ((wr.alloc (.cells (zerosI o) 3)).setCell ⟨g 0, k, none⟩ (.slice (some ⟨wr.heap.size, 0, none⟩) o o)) g n o (k + 1) (updN rb k wr.heap.size) := by
  have hne : ∀ c, c < k → rb c < wr.heap.size := fun c hc => (h.rows c hc).1.lt
  refine ⟨?_, (h.hd.alloc _).far (by simp; omega) _, by have := h.gt; simp [World.setCell]; omega, ?_, fun c hc => ?_, fun c d hc hd hcd => ?_⟩
  · refine (h.keeps.alloc (fun b hb => Nat.lt_of_lt_of_le hb.1 h.keeps.size) _).setCell (fun hb => hb.2 rfl) _
  · have h1 := (h.pa.alloc (.cells (zerosI o) 3)).set_ k (.slice (some ⟨wr.heap.size, 0, none⟩) o o)
    have e : (partVals rb n o k).setIfInBounds k (.slice (some ⟨wr.heap.size, 0, none⟩) o o) = partVals (updN rb k wr.heap.size) n o (k + 1) := by
      unfold partVals
      rw [List.setIfInBounds_toArray]
      congr 1
      apply List.ext_getElem?
      intro i
      rw [List.getElem?_set]
      by_cases e : k = i
      · subst e
        rw [if_pos rfl]
        simp [updN, _hk]
      · rw [if_neg e]
        by_cases hi : i < n
        · simp [hi, updN, Ne.symm e]
          by_cases h2 : i < k
          · rw [if_pos h2, if_pos (by omega)]
          · rw [if_neg h2, if_neg (by omega)]
        · simp [hi]
    rw [← e]; exact h1
  · unfold updN
    by_cases e : c = k
    · rw [if_pos e]
      exact ⟨(Blk.new wr _ _).far (by have := h.keeps.size; simp; omega) _, h.gt⟩
    · rw [if_neg e]
      obtain ⟨h1, h2⟩ := h.rows c (by omega)
      exact ⟨(h1.alloc _).far (by simp; omega) _, h2⟩
  · unfold updN
    by_cases e : c = k
    · rw [if_pos e, if_neg (fun h => hcd (e.trans h.symm))]
      have := hne d (by omega); omega
    · rw [if_neg e]
      by_cases e2 : d = k
      · rw [if_pos e2]
        have := hne c (by omega); omega
      · rw [if_neg e2]
        exact h.inj c d (by omega) (by omega) hcd

theorem MS.undrew {w w' : World} {d : Nat} {B : Mb} {n o : Nat} {M : Md} (h : MS (w.drewN d) w' B n o M) : MS w w' B n o M := ⟨h.at_, h.keeps.undrewN, h.size⟩
theorem deads_lenR {L : Nat → Prop} {w0 w : World} {x a n o : Nat} {B : Mb} {i : Int} {T : Int → Int → Int} {M : Md} (h : RA L w0 w x a n o B i T M) : (mdeads M o).length ≤ 8796093022208 := by
  obtain ⟨m, hm, h1, h2, h3, h4⟩ := h.rm
  have := h1.o_
  have := mdeads_le M o
  omega
theorem P1.drewN {w5 wr : World} {g : Nat → Nat} {n o k : Nat} {rb : Nat → Nat} (h : P1 w5 wr g n o k rb) (d : Nat) : P1 w5 (wr.drewN d) g n o k rb := ⟨h.keeps.drewN d, h.hd, h.gt, h.pa, h.rows, h.inj⟩
theorem ra_start {w w3 w5 wr : World} {x a n o : Nat} {g rb : Nat → Nat} (hb : Below w.heap.size w w3) (hS : RS (ins (fun b => b < w.heap.size) x) w3 x a 0 o n 0 (fun _ _ => 0)) (h5 : Hd5 w3 w5 g n o) (h : P1 w5 wr g n o n rb) :
    ∃ L, RA L w wr x a n o ⟨w5.heap.size, g 0, g 1, g 2, g 3, g 4, g 5, g 6, rb⟩ 0 (fun _ _ => 0) md0 := by
  have hx3 : x < w3.heap.size := hS.rc.2.1.lt
  have k3 : ∀ b, b < w3.heap.size → wr.heap[b]? = w3.heap[b]? := fun b hlt => (h.keeps.block b ⟨Nat.lt_of_lt_of_le hlt h5.below.size, by have := h5.p0.1; omega⟩).trans (h5.below.block b hlt)
  have hB : Below w3.heap.size w3 wr := ⟨h.keeps.os.trans h5.below.os, h.keeps.tape.trans h5.below.tape, h.keeps.output.trans h5.below.output, Nat.le_trans h5.below.size h.keeps.size, k3⟩
  have hge : ∀ b, mbS ⟨w5.heap.size, g 0, g 1, g 2, g 3, g 4, g 5, g 6, rb⟩ n b → w3.heap.size ≤ b ∧ b < wr.heap.size := by
    have s5 := h5.below.size
    have s := h.gt
    rintro b (rfl | rfl | rfl | rfl | rfl | rfl | rfl | rfl | ⟨c, hc, rfl⟩)
    · exact ⟨s5, s⟩
    · exact ⟨h5.p0.1, by have := h5.p0.2.1; simp only at *; omega⟩
    · exact ⟨h5.p1.1, by have := h5.p1.2.1; simp only at *; omega⟩
    · exact ⟨h5.p2.1, by have := h5.p2.2.1; simp only at *; omega⟩
    · exact ⟨(h5.p3 3 (by omega) (by omega)).1, by have := (h5.p3 3 (by omega) (by omega)).2.1; simp only at *; omega⟩
    · exact ⟨(h5.p3 4 (by omega) (by omega)).1, by have := (h5.p3 4 (by omega) (by omega)).2.1; simp only at *; omega⟩
    · exact ⟨(h5.p3 5 (by omega) (by omega)).1, by have := (h5.p3 5 (by omega) (by omega)).2.1; simp only at *; omega⟩
    · exact ⟨(h5.p3 6 (by omega) (by omega)).1, by have := (h5.p3 6 (by omega) (by omega)).2.1; simp only at *; omega⟩
    · have := (h.rows c hc).2
      exact ⟨by simp only; omega, (h.rows c hc).1.lt⟩
  have kp : ∀ {t : TypeId} {cs : Array Value} {i : Nat}, i ≠ 0 → i < 7 → g i < w5.heap.size → Blk w5 (g i) t cs → Blk wr (g i) t cs := fun hi h7 hlt hb => h.keeps.blk hb ⟨hlt, h5.ne _ 0 h7 (by omega) hi⟩
  refine ⟨fun b => ins (fun b => b < w.heap.size) x b ∨ (w3.heap.size ≤ b ∧ b < wr.heap.size), hb.trans (hB.mono hb.size), fun b hb => .inl (.inl hb), fun b hm => ⟨.inr (hge b hm), by have := (hge b hm).1; omega, by have := (hge b hm).1; have := hb.size; omega⟩, 0, by omega, ⟨⟨.inl hS.rc.1, (k3 x hx3).trans hS.rc.2.1, hS.rc.2.2⟩, ?_⟩, TOk.zero, ?_, Agr.start n o⟩
  · obtain ⟨ws, h1, h2⟩ := hS.ar
    refine ⟨ws, h1, h2.map fun _ h3 => h3.move (fun b hb => ?_) (fun b hb hlt => ?_) (fun b hlt _ => k3 b hlt)⟩
    · rcases hb with hb | hb
      · exact Nat.lt_of_lt_of_le (h3.bd b hb) hB.size
      · exact hb.2
    · rcases hb with hb | hb
      · exact hb
      · omega
  · refine ⟨h.hd, ?_, fun c hc => zerosI_row (h.rows c hc).1, zerosI_row (kp (by omega) (by omega) h5.p1.2.1 h5.p1.2.2), fun c hc => ?_, fun c d hc hd hcd => h.inj c d hc hd hcd, zerosB_row (kp (by omega) (by omega) h5.p2.2.1 h5.p2.2.2),
      zerosB_row (kp (by omega) (by omega) (h5.p3 3 (by omega) (by omega)).2.1 (h5.p3 3 (by omega) (by omega)).2.2), zerosB_row (kp (by omega) (by omega) (h5.p3 4 (by omega) (by omega)).2.1 (h5.p3 4 (by omega) (by omega)).2.2),
      zerosB_row (kp (by omega) (by omega) (h5.p3 5 (by omega) (by omega)).2.1 (h5.p3 5 (by omega) (by omega)).2.2), zerosB_row (kp (by omega) (by omega) (h5.p3 6 (by omega) (by omega)).2.1 (h5.p3 6 (by omega) (by omega)).2.2),
      h5.ne 2 3 (by omega) (by omega) (by omega), h5.ne 2 4 (by omega) (by omega) (by omega), h5.ne 2 5 (by omega) (by omega) (by omega), h5.ne 2 6 (by omega) (by omega) (by omega),
      h5.ne 3 4 (by omega) (by omega) (by omega), h5.ne 3 5 (by omega) (by omega) (by omega), h5.ne 3 6 (by omega) (by omega) (by omega), h5.ne 4 5 (by omega) (by omega) (by omega), h5.ne 4 6 (by omega) (by omega) (by omega), h5.ne 5 6 (by omega) (by omega) (by omega)⟩
    · have := h.pa
      have e : partVals rb n o n = ((List.range n).map fun c => Value.slice (some ⟨rb c, 0, none⟩) o o).toArray := by
        unfold partVals
        congr 1
        apply List.map_congr_left
        intro c hc
        rw [if_pos (List.mem_range.1 hc)]
      rw [e] at this
      exact this
    · have h1 := (h.rows c hc).2
      have h2 := h5.p1.2.1
      show rb c ≠ g 1
      omega
end Go.Proofs.Ytokldnmhhhaalaa
