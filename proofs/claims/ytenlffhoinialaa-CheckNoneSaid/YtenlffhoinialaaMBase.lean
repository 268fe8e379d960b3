/- What a protected set of blocks is, what a call keeps, and small facts on worlds: no program. -/
import Derived.WalkKit
import Derived.WalkSpells
import Derived.WalkLawsBesides
import Derived.Deep.RegionLaw
import Derived.Deep.AppendLies
import Derived.Deep.QuietTactic
import Derived.BigQuiet
import Derived.Deep.LoopGhost
import Derived.Deep.DeepFit
import Derived.Lib.Hide
import Derived.Maps.AppendAt
namespace Go.Proofs.Ytenlffhoinialaa
open Go.RowKit

/-! ### A block that is known whole -/
def Blk (w : World) (g : Nat) (t : TypeId) (cs : Array Value) : Prop := w.heap[g]? = some (.cells cs t (0, 0))

section
variable {w w' : World} {g : Nat} {t : TypeId} {cs : Array Value}
theorem Blk.lt (h : Blk w g t cs) : g < w.heap.size := by
  rcases Nat.lt_or_ge g w.heap.size with hlt | hge
  · exact hlt
  · unfold Blk at h; rw [Array.getElem?_eq_none hge] at h; cases h
theorem Blk.cell (h : Blk w g t cs) (i : Nat) : w.cell? ⟨g, i, none⟩ = cs[i]? := cell_of_row w g i cs t (0, 0) h
theorem Blk.frozen (h : Blk w g t cs) (i : Nat) : w.frozen? ⟨g, i, none⟩ = false := by
  unfold Blk at h
  simp [World.frozen?, h]
theorem Blk.new (w : World) (t : TypeId) (cs : Array Value) : Blk (w.alloc (.cells cs t)) w.heap.size t cs := heap_alloc_new w _
theorem Blk.newAt (w : World) (t : TypeId) (cs : Array Value) {n : Nat} (hn : n = w.heap.size) : Blk (w.alloc (.cells cs t)) n t cs := hn ▸ heap_alloc_new w _
theorem Blk.alloc (h : Blk w g t cs) (o : Obj) : Blk (w.alloc o) g t cs := (Below.heap_alloc w o g h.lt).trans h
theorem Blk.set_ (h : Blk w g t cs) (i : Nat) (u : Value) : Blk (w.setCell ⟨g, i, none⟩ u) g t (cs.setIfInBounds i u) := by
  unfold Blk at h ⊢
  simp [World.setCell, Array.getElem?_modify, h]
theorem Blk.far (h : Blk w g t cs) {p : Addr} (hp : g ≠ p.block) (u : Value) : Blk (w.setCell p u) g t cs := (Below.heap_setCell w p u g hp).trans h
theorem Blk.ne_ {g' : Nat} {t' : TypeId} {cs' : Array Value} (h : Blk w g t cs) (h' : Blk w g' t' cs') (hne : t ≠ t') : g ≠ g' := by
  rintro rfl
  unfold Blk at h h'
  rw [h] at h'
  injection h' with h'
  injection h' with _ ht
  exact hne ht
theorem Blk.of_heap (h : w'.heap[g]? = w.heap[g]?) (hb : Blk w g t cs) : Blk w' g t cs := h.trans hb
theorem own_blk_ne {base : Nat} {e : TypeId} {size n : Nat} {v : Value} {xs : List Value} (h : w.ownsRow base e size v n xs) (hg : Blk w g t cs) (hne : e ≠ t) : v.ownBlock ≠ some g := by
  rcases h.2 with ⟨rfl, _⟩ | ⟨g', cap, cur, rfl, _, hh, _⟩
  · simp [Value.ownBlock]
  · intro he
    have : g' = g := by simpa [Value.ownBlock] using he
    subst this
    exact Blk.ne_ (t := e) hh hg hne rfl
end

/-! ### What a call keeps: the blocks of a set -/
structure Keeps (L : Nat → Prop) (w w' : World) : Prop where
  os : w'.os = w.os
  tape : w'.tape = w.tape
  output : w'.output = w.output
  size : w.heap.size ≤ w'.heap.size
  block : ∀ k, L k → w'.heap[k]? = w.heap[k]?

def Bd (L : Nat → Prop) (w : World) : Prop := ∀ b, L b → b < w.heap.size

namespace Keeps
variable {L L' : Nat → Prop} {w w' w'' : World}
theorem refl (L : Nat → Prop) (w : World) : Keeps L w w := ⟨rfl, rfl, rfl, Nat.le_refl _, fun _ _ => rfl⟩
theorem trans (h : Keeps L w w') (k : Keeps L w' w'') : Keeps L w w'' :=
  ⟨k.os.trans h.os, k.tape.trans h.tape, k.output.trans h.output, Nat.le_trans h.size k.size, fun i hi => (k.block i hi).trans (h.block i hi)⟩
theorem sub (h : Keeps L w w') (hs : ∀ b, L' b → L b) : Keeps L' w w' := ⟨h.os, h.tape, h.output, h.size, fun k hk => h.block k (hs k hk)⟩
theorem alloc (h : Keeps L w w') (hb : Bd L w') (o : Obj) : Keeps L w (w'.alloc o) :=
  h.trans ⟨rfl, rfl, rfl, by simp, fun k hk => Below.heap_alloc _ _ _ (hb k hk)⟩
theorem setCell (h : Keeps L w w') {p : Addr} (hp : ¬ L p.block) (u : Value) : Keeps L w (w'.setCell p u) :=
  h.trans ⟨rfl, rfl, rfl, by simp [World.setCell], fun k hk => Below.heap_setCell _ _ _ _ (fun e => hp (e ▸ hk))⟩
theorem drew (h : Keeps L w w') : Keeps L w w'.drew := ⟨h.os, h.tape, h.output, h.size, h.block⟩
theorem drewN (h : Keeps L w w') (n : Nat) : Keeps L w (w'.drewN n) := ⟨h.os, h.tape, h.output, h.size, h.block⟩
theorem grown (h : Keeps L w w') {row : Option Nat} (hg : w'.grownBy w'' row) (hb : Bd L w') (hr : ∀ k, row = some k → ¬ L k) : Keeps L w w'' :=
  h.trans ⟨hg.os, hg.tape, hg.output, hg.size, fun k hk => hg.block k (hb k hk) (fun e => hr k e.symm hk)⟩
theorem blk (h : Keeps L w w') {g : Nat} {t : TypeId} {cs : Array Value} (hb : Blk w g t cs) (hg : L g) : Blk w' g t cs := (h.block g hg).trans hb
theorem cell (h : Keeps L w w') {p : Addr} (hp : L p.block) : w'.cell? p = w.cell? p := World.cell?_of_block (w := w) (h.block p.block hp)
theorem frozen (h : Keeps L w w') {p : Addr} (hp : L p.block) : w'.frozen? p = w.frozen? p := World.frozen?_of_block (w := w) (h.block p.block hp)
theorem cellOf (h : Keeps L w w') {p : Addr} {v : Value} (hp : L p.block) (hc : w.cell? p = some v) : w'.cell? p = some v := (h.cell hp).trans hc
theorem bd (h : Keeps L w w') (hb : Bd L' w) : Bd L' w' := fun b hl => Nat.lt_of_lt_of_le (hb b hl) h.size
theorem below (h : Keeps L w w') {B : Nat} (hB : ∀ b, b < B → L b) : Below B w w' := ⟨h.os, h.tape, h.output, h.size, fun k hk => h.block k (hB k hk)⟩
theorem ofBelow {B : Nat} (h : Below B w w') : Keeps (· < B) w w' := ⟨h.os, h.tape, h.output, h.size, fun k hk => h.block k hk⟩
theorem undrew (h : Keeps L w.drew w') : Keeps L w w' := ⟨h.os, h.tape, h.output, h.size, h.block⟩
theorem undrewN {n : Nat} (h : Keeps L (w.drewN n) w') : Keeps L w w' := ⟨h.os, h.tape, h.output, h.size, h.block⟩
end Keeps

namespace Bd
variable {L L' : Nat → Prop} {w w' : World}
theorem alloc (h : Bd L w) (o : Obj) : Bd L (w.alloc o) := fun b hb => by have := h b hb; simp; omega
theorem setCell (h : Bd L w) (p : Addr) (u : Value) : Bd L (w.setCell p u) := fun b hb => by have := h b hb; simpa [World.setCell] using this
theorem drew (h : Bd L w) : Bd L w.drew := h
theorem drewN (h : Bd L w) (n : Nat) : Bd L (w.drewN n) := h
theorem below (w : World) : Bd (· < w.heap.size) w := fun _ h => h
theorem new (h : Bd L w) : ¬ L w.heap.size := fun hl => absurd (h _ hl) (Nat.lt_irrefl _)
theorem ge (h : Bd L w) {n : Nat} (hn : w.heap.size ≤ n) : ¬ L n := fun hl => absurd (h _ hl) (by omega)
theorem sub (h : Bd L w) (hs : ∀ b, L' b → L b) : Bd L' w := fun b hb => h b (hs b hb)
theorem insert (h : Bd L w) {n : Nat} (hn : n < w.heap.size) : Bd (fun b => L b ∨ b = n) w := fun b hb => by
  rcases hb with hb | rfl
  · exact h b hb
  · exact hn
end Bd

/-- A set with one block more. -/
def ins (L : Nat → Prop) (n : Nat) : Nat → Prop := fun b => L b ∨ b = n
theorem ins.old {L : Nat → Prop} {n b : Nat} (h : L b) : ins L n b := .inl h
theorem ins.new (L : Nat → Prop) (n : Nat) : ins L n n := .inr rfl
theorem Bd.ins {L : Nat → Prop} {w : World} (h : Bd L w) {n : Nat} (hn : n < w.heap.size) : Bd (ins L n) w := h.insert hn
theorem Keeps.out {L : Nat → Prop} {n : Nat} {w w' : World} (h : Keeps (ins L n) w w') : Keeps L w w' := h.sub fun _ => ins.old

theorem lTA {T : Type} (l : List T) (i : Nat) (a : T) : l.toArray.setIfInBounds i a = (l.set i a).toArray := List.setIfInBounds_toArray ..
theorem lC0 {T : Type} (a b : T) (l : List T) : (a :: l).set 0 b = b :: l := rfl
theorem lCS {T : Type} (a b : T) (n : Nat) (l : List T) : (a :: l).set (n + 1) b = a :: l.set n b := rfl
end Go.Proofs.Ytenlffhoinialaa
