
/- Arena: the contracts at a known end. -/
import Derived.Test.YtkbajjpdngfhbaaArSame
namespace Go.Proofs.Ytkbajjpdngfhbaa
open Go.RowKit
set_option maxHeartbeats 400000

section
variable {L : Nat → Prop} {w w' : World} {a : Nat} {ws ws' : List Int} {ts ts' : List (List Acc)}

/-- The bound on the traces that all contracts share. -/
def Room (ts : List (List Acc)) : Prop := Short 1099511627776 ts
instance (ts : List (List Acc)) : Decidable (Room ts) := inferInstanceAs (Decidable (∀ t ∈ ts, t.length ≤ 1099511627776))
theorem Room.dec {ts : List (List Acc)} (h : decide (Room ts) = true) : Room ts := of_decide_eq_true h
theorem Room.of {m : Nat} (h : Short m ts) (hm : m ≤ 1099511627776) : Room ts := h.mono hm

theorem load_to (h : ArAt L w a ws ts) (hm : Room ts) {c i : Int} (h0 : 0 ≤ c ∧ c < ts.length) (h1 : 0 ≤ i ∧ i < ws.length) {r : Int} (hr : rd ws i = r) (ht : noted ts c (i, false) = ts') :
    Calls Try.prog 59 #[.pointer (some ⟨a, 0, none⟩), .int .i64 c, .int .i64 i] w fun e w' => e = .returned (.tuple #[.int .i64 r, .int .i64 0]) ∧ ArAt L w' a ws ts' ∧ Keeps L w w' := by
  subst hr ht
  exact load_ok h c i h0.1 h0.2 h1.1 h1.2 hm (Nat.le_refl _)
theorem store_to (h : ArAt L w a ws ts) (hm : Room ts) {c i v : Int} (h0 : 0 ≤ c ∧ c < ts.length) (h1 : 0 ≤ i ∧ i < ws.length) (hw : wr ws i v = ws') (ht : noted ts c (i, true) = ts') :
    Calls Try.prog 57 #[.pointer (some ⟨a, 0, none⟩), .int .i64 c, .int .i64 i, .int .i64 v] w fun e w' => e = .returned (.int .i64 0) ∧ ArAt L w' a ws' ts' ∧ Keeps L w w' := by
  subst hw ht
  exact store_ok h c i v h0.1 h0.2 h1.1 h1.2 hm (Nat.le_refl _)
theorem add_to (h : ArAt L w a ws ts) (hm : Room ts) {c i v : Int} (h0 : 0 ≤ c ∧ c < ts.length) (h1 : 0 ≤ i ∧ i < ws.length) {r : Int} (hr : wrap64 (rd ws i + v) = r) (hw : wr ws i r = ws') (ht : noted ts c (i, true) = ts') :
    Calls Try.prog 54 #[.pointer (some ⟨a, 0, none⟩), .int .i64 c, .int .i64 i, .int .i64 v] w fun e w' => e = .returned (.tuple #[.int .i64 r, .int .i64 0]) ∧ ArAt L w' a ws' ts' ∧ Keeps L w w' := by
  subst hr hw ht
  exact add_ok h c i v h0.1 h0.2 h1.1 h1.2 hm (Nat.le_refl _)
theorem clear_to (h : ArAt L w a ws ts) {c : Int} (h0 : 0 ≤ c ∧ c < ts.length) (ht : ts.set c.toNat [] = ts') :
    Calls Try.prog 23 #[.pointer (some ⟨a, 0, none⟩), .int .i64 c] w fun e w' => e = .returned (.int .i64 0) ∧ ArAt L w' a ws ts' ∧ Keeps L w w' := by
  subst ht
  exact clear_ok h c h0.1 h0.2
theorem poke_to (h : ArAt L w a ws ts) {i v : Int} (h1 : 0 ≤ i ∧ i < ws.length) (hw : wr ws i v = ws') :
    Calls Try.prog 48 #[.pointer (some ⟨a, 0, none⟩), .int .i64 i, .int .i64 v] w fun e w' => e = .returned (.tuple #[]) ∧ ArAt L w' a ws' ts ∧ Keeps L w w' := by
  subst hw
  exact poke_ok h i v h1.1 h1.2
theorem new_to (hb : Bd L w) {n k : Int} (h0 : 1 ≤ n ∧ n ≤ 65536) (h1 : 1 ≤ k ∧ k ≤ 8) (hw : List.replicate n.toNat 0 = ws) (ht : List.replicate k.toNat [] = ts) :
    Calls Try.prog 27 #[.int .i64 n, .int .i64 k] w fun e w' => ∃ a, e = .returned (.tuple #[.pointer (some ⟨a, 0, none⟩), .int .i64 0]) ∧ ArAt L w' a ws ts ∧ Keeps L w w' := by
  subst hw ht
  exact new_ok hb n k h0.1 h0.2 h1.1 h1.2
theorem trace_to (h : ArAt L w a ws ts) (hm : Room ts) {c : Int} (h0 : 0 ≤ c ∧ c < ts.length) {t : List Acc} (ht : tr ts c = t) :
    Calls Try.prog 25 #[.pointer (some ⟨a, 0, none⟩), .int .i64 c] w fun e w' => ∃ v, e = .returned v ∧ w'.ownsRow w.heap.size 90 2 v t.length (encAccs t) ∧ Below w.heap.size w w' := by
  subst ht
  obtain ⟨bw, bt, vs, h⟩ := h
  exact trace_in h c h0.1 h0.2 hm.at_

/-- What was there is as it was: the arena lies as it lay; what is new may be protected. -/
theorem ArAt.below (h : ArAt L w a ws ts) (hb : Below w.heap.size w w') : ArAt L w' a ws ts :=
  h.move (fun b hl => Nat.lt_of_lt_of_le (h.bd b hl) hb.size) (fun _ hl _ => hl) (fun b hlt _ => hb.block b hlt)
theorem ArAt.belowNew (h : ArAt L w a ws ts) (hb : Below w.heap.size w w') : ArAt (fun b => L b ∨ (w.heap.size ≤ b ∧ b < w'.heap.size)) w' a ws ts :=
  h.move (fun b hl => by
    rcases hl with hl | hl
    · exact Nat.lt_of_lt_of_le (h.bd b hl) hb.size
    · exact hl.2) (fun b hl hlt => by
    rcases hl with hl | hl
    · exact hl
    · omega) (fun b hlt _ => hb.block b hlt)
theorem Keeps.ofNew (hb : Bd L w) (h : Below w.heap.size w w') : Keeps L w w' := (Keeps.ofBelow h).sub hb
end

theorem Sl.lit (w : World) {cs : Array Value} {T : TypeId} {n size : Nat} {xs : List Value} (hx : cs.toList = xs) (hn : xs.length = n * size) :
    Sl (w.alloc (.cells cs T)) size (.slice (some ⟨w.heap.size, 0, none⟩) n n) n xs := by
  subst hx
  refine ⟨hn, _, _, rfl, Nat.le_refl _, fun _ => ⟨_, _, rfl, fun j u hu => ?_⟩⟩
  have hc := (Blk.new w T cs).cell j
  rw [Nat.zero_add]
  exact hc.trans (by simpa using hu)
end Go.Proofs.Ytkbajjpdngfhbaa
