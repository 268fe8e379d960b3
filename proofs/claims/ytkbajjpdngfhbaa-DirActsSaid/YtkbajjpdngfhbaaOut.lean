
/- A row that a call grows while an arena is used. -/
import Derived.Test.YtkbajjpdngfhbaaArP
namespace Go.Proofs.Ytkbajjpdngfhbaa
open Go.RowKit
set_option maxHeartbeats 400000

/-- A protected set, and the block of a row. -/
def lo (L : Nat → Prop) (v : Value) : Nat → Prop := fun b => L b ∨ v.ownBlock = some b
theorem lo_nil (L : Nat → Prop) : lo L (.slice none 0 0) = L := by funext b; simp [lo, Value.ownBlock]

section
variable {L : Nat → Prop} {w w' : World} {a : Nat} {ws : List Int} {n m : Nat} {P : List (List Acc) → Prop}
theorem ArP.grown {v v' : Value} (h : ArP (lo L v) w a ws n m P) (hg : w.grownBy w' v.ownBlock) (hv : ∀ g, v'.ownBlock = some g → (v.ownBlock = some g ∨ w.heap.size ≤ g) ∧ g < w'.heap.size) : ArP (lo L v') w' a ws n m P :=
  h.map fun _ h => h.move (fun b hb => by
    rcases hb with hb | hb
    · exact Nat.lt_of_lt_of_le (h.bd b (.inl hb)) hg.size
    · exact (hv b hb).2) (fun b hb hlt => by
    rcases hb with hb | hb
    · exact .inl hb
    · rcases (hv b hb).1 with e | e
      · exact .inr e
      · omega) (fun b hlt hn => hg.block b hlt (fun e => hn (.inr e.symm)))
theorem ArP.lo_alloc {v : Value} (h : ArP (lo L v) w a ws n m P) (o : Obj) : ArP (lo L v) (w.alloc o) a ws n m P := h.alloc o
/-- What is owned stays owned while its block is kept. -/
theorem own_keep {base : Nat} {e : TypeId} {size k : Nat} {v : Value} {xs : List Value} (h : w.ownsRow base e size v k xs) (hk : Keeps (lo L v) w w') : w'.ownsRow base e size v k xs := by
  refine ⟨h.1, ?_⟩
  rcases h.2 with h2 | ⟨g, cap, cur, hv, hg, hh, rest⟩
  · exact .inl h2
  · exact .inr ⟨g, cap, cur, hv, hg, by rw [hk.block g (.inr (by rw [hv]; rfl))]; exact hh, rest⟩
end
end Go.Proofs.Ytkbajjpdngfhbaa
