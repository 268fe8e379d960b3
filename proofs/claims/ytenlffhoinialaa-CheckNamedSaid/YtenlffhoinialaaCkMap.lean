
/- check: the maps that a call makes; a queue of ints. -/
import Derived.Test.YtenlffhoinialaaCkBodS
import Derived.ArgAppend
namespace Go.Proofs.Ytenlffhoinialaa
open Go.RowKit Go.Maps Go.WideShapes
set_option maxHeartbeats 1000000

theorem zeroI (w : World) : (zeroValue 3).run Try.prog w = .ok (.int .i64 0) w := by kernel_rfl
theorem zeroB (w : World) : (zeroValue 4).run Try.prog w = .ok (.bool false) w := by kernel_rfl
theorem lawI : Keyed Try.prog 3 := int_keyed Try.underlying3
def kI (i : Int) : Lit := .int .i64 i
theorem kI_ne {i j : Int} (h : i ≠ j) : kI i ≠ kI j := fun e => h (by unfold kI at e; injection e)
theorem keyI {i : Int} (h : -1000000 ≤ i ∧ i ≤ 1000000) : keyOf Try.prog 3 (.int .i64 i) = some (kI i) := keyOf_int_mk Try.underlying3 (WalkArith.wf_i64 (by omega))
/-- A map of numbers to numbers that reads as f. -/
def MapI (w : World) (b n : Nat) (f : Int → Int) : Prop := ∃ D : DataW Unit, w.ownsMap Try.prog 3 (plainElem Try.prog 3) b n D ∧ ∀ i, D.atKey (kI i) (.lit (.int .i64 0)) = .lit (.int .i64 (f i))
def MapB (w : World) (b n : Nat) (f : Int → Bool) : Prop := ∃ D : DataW Unit, w.ownsMap Try.prog 3 (plainElem Try.prog 4) b n D ∧ ∀ i, D.atKey (kI i) (.lit (.bool false)) = .lit (.bool (f i))
theorem plainB_inv {v : Value} {x : Bool} {ps : List MemPlace} (h : plainElem (H := Unit) Try.prog 4 v = some (.lit (.bool x), ps)) : v = .bool x := by
  unfold plainElem at h
  rw [show Try.prog.underlying 4 = some .bool from Try.underlying4] at h
  cases v <;> simp at h
  rw [h.1]
theorem MapI.look {w : World} {b n : Nat} {f : Int → Int} (h : MapI w b n f) {i : Int} (hi : -1000000 ≤ i ∧ i ≤ 1000000) : (Instr.lookup 110 (.map (some b)) (.int .i64 i) false).run Try.prog w = .ok (.int .i64 (f i)) w := by
  obtain ⟨D, ho, hf⟩ := h
  obtain ⟨c, hrun, hat, _⟩ := ho.lookup_int lawI Try.underlying110 Try.underlying3 (zeroI w) (keyI hi)
  rw [hf i] at hat
  have e : f i = c := Lit.int.inj (DataW.lit.inj hat) |>.2
  exact e ▸ hrun
theorem MapB.look {w : World} {b n : Nat} {f : Int → Bool} (h : MapB w b n f) {i : Int} (hi : -1000000 ≤ i ∧ i ≤ 1000000) : (Instr.lookup 109 (.map (some b)) (.int .i64 i) false).run Try.prog w = .ok (.bool (f i)) w := by
  obtain ⟨D, ho, hf⟩ := h
  obtain ⟨v, ps, hrun, hv⟩ := ho.lookup lawI Try.underlying109 (zeroB w) (zd := .lit (.bool false)) (zp := []) (plainElem_bool Try.underlying4 false) (keyI hi)
  rw [hf i] at hv
  rw [plainB_inv hv] at hrun
  exact hrun
theorem MapI.made (w : World) : MapI (w.alloc (.map #[] 0)) w.heap.size 0 (fun _ => 0) := ⟨.map [], World.ownsMap_made _ _ _ _, fun _ => rfl⟩
theorem MapB.made (w : World) : MapB (w.alloc (.map #[] 0)) w.heap.size 0 (fun _ => false) := ⟨.map [], World.ownsMap_made _ _ _ _, fun _ => rfl⟩
theorem MapI.kept {w w' : World} {b n : Nat} {f : Int → Int} {row : Option Nat} (h : MapI w b n f) (hg : w.grownBy w' row) (hne : some b ≠ row) : MapI w' b n f := by
  obtain ⟨D, ho, hf⟩ := h
  exact ⟨D, ho.kept hg hne, hf⟩
theorem MapB.kept {w w' : World} {b n : Nat} {f : Int → Bool} {row : Option Nat} (h : MapB w b n f) (hg : w.grownBy w' row) (hne : some b ≠ row) : MapB w' b n f := by
  obtain ⟨D, ho, hf⟩ := h
  exact ⟨D, ho.kept hg hne, hf⟩
theorem own_keepT {k : TypeId} {R : Value → Option (DataW Unit × List MemPlace)} {w w' : World} {b n : Nat} {D : DataW Unit} (h : w.ownsMap Try.prog k R b n D) (hk : KeepsT w w') : w'.ownsMap Try.prog k R b n D := by
  obtain ⟨es, clock, hb, F, hs, hD⟩ := h
  exact ⟨es, clock, hk.block b _ hb trivial, F, hs, hD⟩
theorem MapI.keepT {w w' : World} {b n : Nat} {f : Int → Int} (h : MapI w b n f) (hk : KeepsT w w') : MapI w' b n f := by
  obtain ⟨D, ho, hf⟩ := h
  exact ⟨D, own_keepT ho hk, hf⟩
theorem MapB.keepT {w w' : World} {b n : Nat} {f : Int → Bool} (h : MapB w b n f) (hk : KeepsT w w') : MapB w' b n f := by
  obtain ⟨D, ho, hf⟩ := h
  exact ⟨D, own_keepT ho hk, hf⟩
theorem MapI.alloc {w : World} {b n : Nat} {f : Int → Int} (h : MapI w b n f) (o : Obj) : MapI (w.alloc o) b n f := h.kept (World.grownBy_alloc w o none) (by simp)
theorem MapB.alloc {w : World} {b n : Nat} {f : Int → Bool} (h : MapB w b n f) (o : Obj) : MapB (w.alloc o) b n f := h.kept (World.grownBy_alloc w o none) (by simp)
theorem MapI.drew {w : World} {b n : Nat} {f : Int → Int} (h : MapI w b n f) : MapI w.drew b n f := h
theorem MapB.drew {w : World} {b n : Nat} {f : Int → Bool} (h : MapB w b n f) : MapB w.drew b n f := h
theorem MapI.drewN {w : World} {b n : Nat} {f : Int → Int} (h : MapI w b n f) (k : Nat) : MapI (w.drewN k) b n f := h
theorem MapB.drewN {w : World} {b n : Nat} {f : Int → Bool} (h : MapB w b n f) (k : Nat) : MapB (w.drewN k) b n f := h
theorem MapI.congr {w : World} {b n : Nat} {f g : Int → Int} (h : MapI w b n f) (e : ∀ i, f i = g i) : MapI w b n g := (funext e : f = g) ▸ h
theorem MapB.congr {w : World} {b n : Nat} {f g : Int → Bool} (h : MapB w b n f) (e : ∀ i, f i = g i) : MapB w b n g := (funext e : f = g) ▸ h
theorem MapI.obj {w : World} {b n : Nat} {f : Int → Int} (h : MapI w b n f) : ∃ es cl, w.heap[b]? = some (.map es cl) := by
  obtain ⟨D, ⟨es, cl, hb, _⟩, _⟩ := h
  exact ⟨es, cl, hb⟩
theorem MapB.obj {w : World} {b n : Nat} {f : Int → Bool} (h : MapB w b n f) : ∃ es cl, w.heap[b]? = some (.map es cl) := by
  obtain ⟨D, ⟨es, cl, hb, _⟩, _⟩ := h
  exact ⟨es, cl, hb⟩
theorem put_at {D : DataW Unit} (hD : IsMap D) (i : Int) (d z : DataW Unit) (j : Int) : (D.put (kI i) d).atKey (kI j) z = if j = i then d else D.atKey (kI j) z := by
  by_cases e : j = i
  · subst e
    rw [if_pos rfl]
    exact atKey_put_same hD (by simp [kI, WideAt.IsKeyLit]) _ _
  · rw [if_neg e]
    exact atKey_put_other (kI_ne e) _ _
section
variable {ops : Array Oper} {rest : List Oper} {o : Oper} {a : Act} {Q : Exit → Act → World → Prop}
/-- m[k] = v, and an entry of a literal. -/
theorem wpList_setB (w : World) (hg : o.guard = none) (m x v : Operand) (hop : o.op = Op.mapUpdate 109 m x v ∨ o.op = Op.insert 109 m x v) (b n : Nat) (f : Int → Bool) (hm : a.eval m = .map (some b)) (h : MapB w b n f) (hn : n < 1000000000)
    (i : Int) (hi : -1000000 ≤ i ∧ i ≤ 1000000) (hx : a.eval x = .int .i64 i) (y : Bool) (hv : a.eval v = .bool y)
    (hK : ∀ w', MapB w' b (n + 1) (fun j => if j = i then y else f j) → w.grownBy w' (some b) → wpList Try.prog ops Q rest (a.put o.dst undef) w') : wpList Try.prog ops Q (o :: rest) a w := by
  obtain ⟨D, ho, hf⟩ := h
  refine wpList_plain hg fun K' hK' => ?_
  obtain ⟨w', hrun, r1, r2⟩ := ho.update (val := .bool y) lawI Try.underlying109 (by unfold maxLen; omega) (keyI hi) (plainElem_bool Try.underlying4 y)
  have hM : MapB w' b (n + 1) (fun j => if j = i then y else f j) := ⟨_, r1, fun j => by
    rw [put_at ho.isMap]
    by_cases e : j = i
    · subst e; simp
    · simp [e, hf]⟩
  unfold Oper.wp
  rcases hop with hop | hop
  all_goals
    simp [execOp, hop, hm, hx, hv, hrun, Result.andThen]
    exact hK' _ _ (hK w' hM r2)
theorem wpList_setI (w : World) (hg : o.guard = none) (m x v : Operand) (hop : o.op = Op.mapUpdate 110 m x v) (b n : Nat) (f : Int → Int) (hm : a.eval m = .map (some b)) (h : MapI w b n f) (hn : n < 1000000000)
    (i : Int) (hi : -1000000 ≤ i ∧ i ≤ 1000000) (hx : a.eval x = .int .i64 i) (y : Int) (hy : 0 ≤ y ∧ y ≤ 1000000000) (hv : a.eval v = .int .i64 y)
    (hK : ∀ w', MapI w' b (n + 1) (fun j => if j = i then y else f j) → w.grownBy w' (some b) → wpList Try.prog ops Q rest (a.put o.dst undef) w') : wpList Try.prog ops Q (o :: rest) a w := by
  obtain ⟨D, ho, hf⟩ := h
  refine wpList_plain hg fun K' hK' => ?_
  obtain ⟨w', hrun, r1, r2⟩ := ho.update (val := .int .i64 y) lawI Try.underlying110 (by unfold maxLen; omega) (keyI hi) (plainElem_int Try.underlying3 (WalkArith.wf_i64 (by omega)))
  have hM : MapI w' b (n + 1) (fun j => if j = i then y else f j) := ⟨_, r1, fun j => by
    rw [put_at ho.isMap]
    by_cases e : j = i
    · subst e; simp
    · simp [e, hf]⟩
  unfold Oper.wp
  simp [execOp, hop, hm, hx, hv, hrun, Result.andThen]
  exact hK' _ _ (hK w' hM r2)
end
/-- The checker stays while a map of the call's own is written. -/
theorem At.turn {w0 w wx wy : World} {c sb : Nat} {iv ov mv : Value} {D : List Fnd} (h : At w0 w wx c sb iv ov mv D) {b : Nat} (hb : ∃ es cl, wx.heap[b]? = some (.map es cl)) (hw : w.heap.size ≤ b) (hw0 : w0.heap.size ≤ w.heap.size) (hg : wx.grownBy wy (some b)) : At w0 w wy c sb iv ov mv D := by
  obtain ⟨es, cl, hb⟩ := hb
  have hne : ∀ {g : Nat} {t : TypeId} {cs : Array Value}, Blk wx g t cs → some g ≠ some b := fun hq e => by
    obtain rfl := Option.some.inj e
    unfold Blk at hq
    rw [hb] at hq
    cases hq
  obtain ⟨h1, h2⟩ := h
  obtain ⟨v, r1, r2⟩ := h1.row
  refine ⟨⟨h1.bel.trans ⟨hg.os, hg.tape, hg.output, hg.size, fun q hq => hg.block q (by have := h1.bel.size; omega) (fun e => by have := Option.some.inj e; omega)⟩, h1.sB, Blk.of_heap (hg.block _ h1.sat.lt (hne h1.sat)) h1.sat, h1.cB, v, Blk.of_heap (hg.block _ r1.lt (hne r1)) r1, ?_⟩, ⟨Nat.le_trans h2.size hg.size, fun q o hq hf => ?_⟩⟩
  · refine ⟨r2.1, ?_⟩
    rcases r2.2 with q | ⟨g', cap, cur, hv, hg', hh, rest⟩
    · exact .inl q
    · exact .inr ⟨g', cap, cur, hv, hg', Blk.of_heap (hg.block _ (Blk.lt (show Blk wx g' _ cur from hh)) (hne (show Blk wx g' _ cur from hh))) hh, rest⟩
  · have h3 := h2.block q o hq hf
    rw [hg.block q (heap_lt h3) (fun e => by have := Option.some.inj e; have := heap_lt hq; omega)]
    exact h3
theorem Blk.turn {wx wy : World} {b g : Nat} {t : TypeId} {cs : Array Value} (h : Blk wx g t cs) (hb : ∃ es cl, wx.heap[b]? = some (.map es cl)) (hg : wx.grownBy wy (some b)) : Blk wy g t cs := by
  obtain ⟨es, cl, hb⟩ := hb
  refine Blk.of_heap (hg.block _ h.lt (fun e => ?_)) h
  obtain rfl := Option.some.inj e
  unfold Blk at h
  rw [hb] at h
  cases h
end Go.Proofs.Ytenlffhoinialaa
