
/- The arena as it lies in memory: words, and for each core its accesses. -/
import Derived.Test.YtkbajjpdngfhbaaProg
import Derived.Test.YtkbajjpdngfhbaaBase
namespace Go.Proofs.Ytkbajjpdngfhbaa
open Go.RowKit

/-- An access: the word, and whether it was written. -/
abbrev Acc := Int × Bool
def encAcc (x : Acc) : Value := .iface (if x.2 then 91 else 93) (.int .i64 x.1)

/-- An arena at block a: the words' block, the traces' block, what the latter holds. None of its blocks is in L. -/
structure ArIn (L : Nat → Prop) (w : World) (a bw bt : Nat) (vs : List Value) (ws : List Int) (ts : List (List Acc)) : Prop where
  bd : Bd L w
  la : ¬ L a
  lw : ¬ L bw
  lt : ¬ L bt
  ba : Blk w a 88 #[.slice (some ⟨bw, 0, none⟩) ws.length ws.length, .slice (some ⟨bt, 0, none⟩) ts.length ts.length]
  bws : Blk w bw 3 (ws.map (Value.int .i64)).toArray
  bts : Blk w bt 85 vs.toArray
  vl : vs.length = ts.length
  row : ∀ c, c < ts.length → w.ownsRow 0 20 1 (vs.getD c undef) (ts.getD c []).length ((ts.getD c []).map encAcc)
  lrow : ∀ c, c < ts.length → ∀ b, (vs.getD c undef).ownBlock = some b → ¬ L b
  apart : ∀ c c', c < ts.length → c' < ts.length → c ≠ c' → ∀ b, (vs.getD c undef).ownBlock = some b → (vs.getD c' undef).ownBlock ≠ some b
  wsl : ws.length ≤ 65536
  tsl : ts.length ≤ 8

def ArAt (L : Nat → Prop) (w : World) (a : Nat) (ws : List Int) (ts : List (List Acc)) : Prop := ∃ bw bt vs, ArIn L w a bw bt vs ws ts

section
variable {L L' : Nat → Prop} {w w' : World} {a bw bt : Nat} {vs : List Value} {ws : List Int} {ts : List (List Acc)}

/-- Into another world in which the arena's blocks are as they were. -/
theorem ArIn.move (h : ArIn L w a bw bt vs ws ts) (hb : Bd L' w') (hl : ∀ b, L' b → b < w.heap.size → L b)
    (hk : ∀ b, b < w.heap.size → ¬ L b → w'.heap[b]? = w.heap[b]?) : ArIn L' w' a bw bt vs ws ts := by
  have nl : ∀ b, b < w.heap.size → ¬ L b → ¬ L' b := fun b hlt hn hc => hn (hl b hc hlt)
  refine ⟨hb, nl _ h.ba.lt h.la, nl _ h.bws.lt h.lw, nl _ h.bts.lt h.lt, Blk.of_heap (hk _ h.ba.lt h.la) h.ba, Blk.of_heap (hk _ h.bws.lt h.lw) h.bws, Blk.of_heap (hk _ h.bts.lt h.lt) h.bts, h.vl, ?_, ?_, h.apart, h.wsl, h.tsl⟩
  · intro c hc
    have r := h.row c hc
    refine ⟨r.1, ?_⟩
    rcases r.2 with r2 | ⟨g, cap, cur, hv, hg, hh, rest⟩
    · exact .inl r2
    · refine .inr ⟨g, cap, cur, hv, hg, ?_, rest⟩
      rw [hk g (lt_of_block hh) (h.lrow c hc g (by rw [hv]; rfl))]
      exact hh
  · intro c hc b hb'
    have := (h.row c hc).lt b hb'
    exact nl b this.2 (h.lrow c hc b hb')

theorem ArAt.move (h : ArAt L w a ws ts) (hb : Bd L' w') (hl : ∀ b, L' b → b < w.heap.size → L b)
    (hk : ∀ b, b < w.heap.size → ¬ L b → w'.heap[b]? = w.heap[b]?) : ArAt L' w' a ws ts := by
  obtain ⟨bw, bt, vs, h⟩ := h
  exact ⟨bw, bt, vs, h.move hb hl hk⟩
theorem ArAt.bd (h : ArAt L w a ws ts) : Bd L w := by obtain ⟨bw, bt, vs, h⟩ := h; exact h.bd
theorem ArAt.lt (h : ArAt L w a ws ts) : a < w.heap.size := by obtain ⟨bw, bt, vs, h⟩ := h; exact h.ba.lt
theorem ArAt.sub (h : ArAt L w a ws ts) (hs : ∀ b, L' b → L b) : ArAt L' w a ws ts := h.move (h.bd.sub hs) (fun b hb _ => hs b hb) (fun _ _ _ => rfl)
theorem ArAt.alloc (h : ArAt L w a ws ts) (o : Obj) : ArAt L (w.alloc o) a ws ts :=
  h.move (h.bd.alloc o) (fun _ hb _ => hb) (fun _ hb _ => Below.heap_alloc _ _ _ hb)
/-- A new block, protected from now on. -/
theorem ArAt.allocIns (h : ArAt L w a ws ts) (o : Obj) : ArAt (ins L w.heap.size) (w.alloc o) a ws ts :=
  h.move ((h.bd.alloc o).ins (n := w.heap.size) (by simp)) (fun b hb hlt => by
    rcases hb with hb | hb
    · exact hb
    · omega) (fun _ hb _ => Below.heap_alloc _ _ _ hb)
theorem ArAt.setCell (h : ArAt L w a ws ts) {p : Addr} (hp : L p.block) (u : Value) : ArAt L (w.setCell p u) a ws ts :=
  h.move (h.bd.setCell p u) (fun _ hb _ => hb) (fun _ _ hn => Below.heap_setCell _ _ _ _ (fun e => hn (e ▸ hp)))
theorem ArAt.drew (h : ArAt L w a ws ts) : ArAt L w.drew a ws ts := h.move h.bd (fun _ hb _ => hb) (fun _ _ _ => rfl)
theorem ArAt.drewN (h : ArAt L w a ws ts) (n : Nat) : ArAt L (w.drewN n) a ws ts := h.move h.bd (fun _ hb _ => hb) (fun _ _ _ => rfl)
theorem ArAt.wsl (h : ArAt L w a ws ts) : ws.length ≤ 65536 := by obtain ⟨bw, bt, vs, h⟩ := h; exact h.wsl
theorem ArAt.tsl (h : ArAt L w a ws ts) : ts.length ≤ 8 := by obtain ⟨bw, bt, vs, h⟩ := h; exact h.tsl
end

/-- A word; a word written; a core's accesses; an access more of a core. (Plain definitions: the walk does not open them.) -/
def rd (ws : List Int) (i : Int) : Int := ws.getD i.toNat 0
def wr (ws : List Int) (i v : Int) : List Int := ws.set i.toNat v
def tr (ts : List (List Acc)) (c : Int) : List Acc := ts.getD c.toNat []
def noted (ts : List (List Acc)) (c : Int) (x : Acc) : List (List Acc) := ts.set c.toNat (tr ts c ++ [x])
@[simp, go_sem] theorem wr_length (ws : List Int) (i v : Int) : (wr ws i v).length = ws.length := by simp [wr]
@[simp, go_sem] theorem noted_length (ts : List (List Acc)) (c : Int) (x : Acc) : (noted ts c x).length = ts.length := by simp [noted]

/-- The traces are no longer than m. -/
def Short (m : Nat) (ts : List (List Acc)) : Prop := ∀ t ∈ ts, t.length ≤ m
theorem Short.at_ {m : Nat} {c : Int} {ts : List (List Acc)} (h : Short m ts) : (tr ts c).length ≤ m := by
  unfold tr
  rw [List.getD_eq_getElem?_getD]
  rcases hx : ts[c.toNat]? with _ | t
  · simp
  · exact h t (List.mem_of_getElem? hx)
theorem Short.noted {m : Nat} {c : Int} {ts : List (List Acc)} (h : Short m ts) (x : Acc) : Short (m + 1) (noted ts c x) := by
  intro t ht
  rcases List.mem_or_eq_of_mem_set ht with ht | rfl
  · have := h t ht; omega
  · have := h.at_ (c := c)
    rw [List.length_append, List.length_singleton]; omega
theorem Short.mono {m m' : Nat} {ts : List (List Acc)} (h : Short m ts) (hm : m ≤ m') : Short m' ts := fun t ht => Nat.le_trans (h t ht) hm

end Go.Proofs.Ytkbajjpdngfhbaa
