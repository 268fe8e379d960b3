/- check: the maps that a call makes; a queue of ints. check: a queue of ints. check: what is found from the root on, plainly. check: found. -/
import Derived.Test.YtenlffhoinialaaMCkBodS
import Derived.ArgAppend
import Derived.IntWalk
import Derived.Deep.CutBlock
section
namespace Go.Proofs.Ytenlffhoinialaa
open Go.RowKit Go.Maps Go.WideShapes
set_option maxHeartbeats 1000000

theorem zeroI (w : World) : (zeroValue 3).run Try.prog w = .ok (.int .i64 0) w := by kernel_rfl
theorem zeroB (w : World) : (zeroValue 4).run Try.prog w = .ok (.bool false) w := by kernel_rfl
theorem lawI : Keyed Try.prog 3 := int_keyed Try.underlying3
def kI (i : Int) : Lit := .int .i64 i
theorem kI_ne {i j : Int} (h : i ≠ j) : kI i ≠ kI j := fun e => h (by unfold kI at e; injection e)
theorem keyI {i : Int} (h : -1000000 ≤ i ∧ i ≤ 1000000) : keyOf Try.prog 3 (.int .i64 i) = some (kI i) := keyOf_int_mk Try.underlying3 (WalkArith.wf_i64 (by omega))
/-- A map of numbers to numbers that reads as f. -/
def MapI (w : World) (b n : Nat) (f : Int → Int) : Prop := ∃ D : DataW Unit, w.ownsMap Try.prog 3 (plainElem Try.prog 3) b n D ∧ ∀ i, D.atKey (kI i) (.lit (.int .i64 0)) = .lit (.int .i64 (f i))
def MapB (w : World) (b n : Nat) (f : Int → Bool) : Prop := ∃ D : DataW Unit, w.ownsMap Try.prog 3 (plainElem Try.prog 4) b n D ∧ ∀ i, D.atKey (kI i) (.lit (.bool false)) = .lit (.bool (f i))
theorem plainB_inv {v : Value} {x : Bool} {ps : List MemPlace} (h : plainElem (H := Unit) Try.prog 4 v = some (.lit (.bool x), ps)) : v = .bool x := by
  unfold plainElem at h
  rw [show Try.prog.underlying 4 = some .bool from Try.underlying4] at h
  cases v <;> simp at h
  rw [h.1]
theorem MapI.look {w : World} {b n : Nat} {f : Int → Int} (h : MapI w b n f) {i : Int} (hi : -1000000 ≤ i ∧ i ≤ 1000000) : (Instr.lookup 110 (.map (some b)) (.int .i64 i) false).run Try.prog w = .ok (.int .i64 (f i)) w := by
  obtain ⟨D, ho, hf⟩ := h
  obtain ⟨c, hrun, hat, _⟩ := ho.lookup_int lawI Try.underlying110 Try.underlying3 (zeroI w) (keyI hi)
  rw [hf i] at hat
  have e : f i = c := Lit.int.inj (DataW.lit.inj hat) |>.2
  exact e ▸ hrun
theorem MapB.look {w : World} {b n : Nat} {f : Int → Bool} (h : MapB w b n f) {i : Int} (hi : -1000000 ≤ i ∧ i ≤ 1000000) : (Instr.lookup 109 (.map (some b)) (.int .i64 i) false).run Try.prog w = .ok (.bool (f i)) w := by
  obtain ⟨D, ho, hf⟩ := h
  obtain ⟨v, ps, hrun, hv⟩ := ho.lookup lawI Try.underlying109 (zeroB w) (zd := .lit (.bool false)) (zp := []) (plainElem_bool Try.underlying4 false) (keyI hi)
  rw [hf i] at hv
  rw [plainB_inv hv] at hrun
  exact hrun
theorem MapI.made (w : World) : MapI (w.alloc (.map #[] 0)) w.heap.size 0 (fun _ => 0) := ⟨.map [], World.ownsMap_made _ _ _ _, fun _ => rfl⟩
theorem MapB.made (w : World) : MapB (w.alloc (.map #[] 0)) w.heap.size 0 (fun _ => false) := ⟨.map [], World.ownsMap_made _ _ _ _, fun _ => rfl⟩
theorem MapI.kept {w w' : World} {b n : Nat} {f : Int → Int} {row : Option Nat} (h : MapI w b n f) (hg : w.grownBy w' row) (hne : some b ≠ row) : MapI w' b n f := by
  obtain ⟨D, ho, hf⟩ := h
  exact ⟨D, ho.kept hg hne, hf⟩
theorem MapB.kept {w w' : World} {b n : Nat} {f : Int → Bool} {row : Option Nat} (h : MapB w b n f) (hg : w.grownBy w' row) (hne : some b ≠ row) : MapB w' b n f := by
  obtain ⟨D, ho, hf⟩ := h
  exact ⟨D, ho.kept hg hne, hf⟩
theorem own_keepT {k : TypeId} {R : Value → Option (DataW Unit × List MemPlace)} {w w' : World} {b n : Nat} {D : DataW Unit} (h : w.ownsMap Try.prog k R b n D) (hk : KeepsT w w') : w'.ownsMap Try.prog k R b n D := by
  obtain ⟨es, clock, hb, F, hs, hD⟩ := h
  exact ⟨es, clock, hk.block b _ hb trivial, F, hs, hD⟩
theorem MapI.keepT {w w' : World} {b n : Nat} {f : Int → Int} (h : MapI w b n f) (hk : KeepsT w w') : MapI w' b n f := by
  obtain ⟨D, ho, hf⟩ := h
  exact ⟨D, own_keepT ho hk, hf⟩
theorem MapB.keepT {w w' : World} {b n : Nat} {f : Int → Bool} (h : MapB w b n f) (hk : KeepsT w w') : MapB w' b n f := by
  obtain ⟨D, ho, hf⟩ := h
  exact ⟨D, own_keepT ho hk, hf⟩
theorem MapI.alloc {w : World} {b n : Nat} {f : Int → Int} (h : MapI w b n f) (o : Obj) : MapI (w.alloc o) b n f := h.kept (World.grownBy_alloc w o none) (by simp)
theorem MapB.alloc {w : World} {b n : Nat} {f : Int → Bool} (h : MapB w b n f) (o : Obj) : MapB (w.alloc o) b n f := h.kept (World.grownBy_alloc w o none) (by simp)
theorem MapI.drew {w : World} {b n : Nat} {f : Int → Int} (h : MapI w b n f) : MapI w.drew b n f := h
theorem MapB.drew {w : World} {b n : Nat} {f : Int → Bool} (h : MapB w b n f) : MapB w.drew b n f := h
theorem MapI.drewN {w : World} {b n : Nat} {f : Int → Int} (h : MapI w b n f) (k : Nat) : MapI (w.drewN k) b n f := h
theorem MapB.drewN {w : World} {b n : Nat} {f : Int → Bool} (h : MapB w b n f) (k : Nat) : MapB (w.drewN k) b n f := h
theorem MapI.congr {w : World} {b n : Nat} {f g : Int → Int} (h : MapI w b n f) (e : ∀ i, f i = g i) : MapI w b n g := (funext e : f = g) ▸ h
theorem MapB.congr {w : World} {b n : Nat} {f g : Int → Bool} (h : MapB w b n f) (e : ∀ i, f i = g i) : MapB w b n g := (funext e : f = g) ▸ h
theorem MapI.obj {w : World} {b n : Nat} {f : Int → Int} (h : MapI w b n f) : ∃ es cl, w.heap[b]? = some (.map es cl) := by
  obtain ⟨D, ⟨es, cl, hb, _⟩, _⟩ := h
  exact ⟨es, cl, hb⟩
theorem MapB.obj {w : World} {b n : Nat} {f : Int → Bool} (h : MapB w b n f) : ∃ es cl, w.heap[b]? = some (.map es cl) := by
  obtain ⟨D, ⟨es, cl, hb, _⟩, _⟩ := h
  exact ⟨es, cl, hb⟩
theorem put_at {D : DataW Unit} (hD : IsMap D) (i : Int) (d z : DataW Unit) (j : Int) : (D.put (kI i) d).atKey (kI j) z = if j = i then d else D.atKey (kI j) z := by
  by_cases e : j = i
  · subst e
    rw [if_pos rfl]
    exact atKey_put_same hD (by simp [kI, WideAt.IsKeyLit]) _ _
  · rw [if_neg e]
    exact atKey_put_other (kI_ne e) _ _
section
variable {ops : Array Oper} {rest : List Oper} {o : Oper} {a : Act} {Q : Exit → Act → World → Prop}
/-- m[k] = v, and an entry of a literal. -/
theorem wpList_setB (w : World) (hg : o.guard = none) (m x v : Operand) (hop : o.op = Op.mapUpdate 109 m x v ∨ o.op = Op.insert 109 m x v) (b n : Nat) (f : Int → Bool) (hm : a.eval m = .map (some b)) (h : MapB w b n f) (hn : n < 1000000000)
    (i : Int) (hi : -1000000 ≤ i ∧ i ≤ 1000000) (hx : a.eval x = .int .i64 i) (y : Bool) (hv : a.eval v = .bool y)
    (hK : ∀ w', MapB w' b (n + 1) (fun j => if j = i then y else f j) → w.grownBy w' (some b) → wpList Try.prog ops Q rest (a.put o.dst undef) w') : wpList Try.prog ops Q (o :: rest) a w := by
  obtain ⟨D, ho, hf⟩ := h
  refine wpList_plain hg fun K' hK' => ?_
  obtain ⟨w', hrun, r1, r2⟩ := ho.update (val := .bool y) lawI Try.underlying109 (by unfold maxLen; omega) (keyI hi) (plainElem_bool Try.underlying4 y)
  have hM : MapB w' b (n + 1) (fun j => if j = i then y else f j) := ⟨_, r1, fun j => by
    rw [put_at ho.isMap]
    by_cases e : j = i
    · subst e; simp
    · simp [e, hf]⟩
  unfold Oper.wp
  rcases hop with hop | hop
  all_goals
    simp [execOp, hop, hm, hx, hv, hrun, Result.andThen]
    exact hK' _ _ (hK w' hM r2)
theorem wpList_setI (w : World) (hg : o.guard = none) (m x v : Operand) (hop : o.op = Op.mapUpdate 110 m x v) (b n : Nat) (f : Int → Int) (hm : a.eval m = .map (some b)) (h : MapI w b n f) (hn : n < 1000000000)
    (i : Int) (hi : -1000000 ≤ i ∧ i ≤ 1000000) (hx : a.eval x = .int .i64 i) (y : Int) (hy : 0 ≤ y ∧ y ≤ 1000000000) (hv : a.eval v = .int .i64 y)
    (hK : ∀ w', MapI w' b (n + 1) (fun j => if j = i then y else f j) → w.grownBy w' (some b) → wpList Try.prog ops Q rest (a.put o.dst undef) w') : wpList Try.prog ops Q (o :: rest) a w := by
  obtain ⟨D, ho, hf⟩ := h
  refine wpList_plain hg fun K' hK' => ?_
  obtain ⟨w', hrun, r1, r2⟩ := ho.update (val := .int .i64 y) lawI Try.underlying110 (by unfold maxLen; omega) (keyI hi) (plainElem_int Try.underlying3 (WalkArith.wf_i64 (by omega)))
  have hM : MapI w' b (n + 1) (fun j => if j = i then y else f j) := ⟨_, r1, fun j => by
    rw [put_at ho.isMap]
    by_cases e : j = i
    · subst e; simp
    · simp [e, hf]⟩
  unfold Oper.wp
  simp [execOp, hop, hm, hx, hv, hrun, Result.andThen]
  exact hK' _ _ (hK w' hM r2)
end
/-- The checker stays while a map of the call's own is written. -/
theorem At.turn {w0 w wx wy : World} {c sb : Nat} {iv ov mv : Value} {D : List Fnd} (h : At w0 w wx c sb iv ov mv D) {b : Nat} (hb : ∃ es cl, wx.heap[b]? = some (.map es cl)) (hw : w.heap.size ≤ b) (hw0 : w0.heap.size ≤ w.heap.size) (hg : wx.grownBy wy (some b)) : At w0 w wy c sb iv ov mv D := by
  obtain ⟨es, cl, hb⟩ := hb
  have hne : ∀ {g : Nat} {t : TypeId} {cs : Array Value}, Blk wx g t cs → some g ≠ some b := fun hq e => by
    obtain rfl := Option.some.inj e
    unfold Blk at hq
    rw [hb] at hq
    cases hq
  obtain ⟨h1, h2⟩ := h
  obtain ⟨v, r1, r2⟩ := h1.row
  refine ⟨⟨h1.bel.trans ⟨hg.os, hg.tape, hg.output, hg.size, fun q hq => hg.block q (by have := h1.bel.size; omega) (fun e => by have := Option.some.inj e; omega)⟩, h1.sB, Blk.of_heap (hg.block _ h1.sat.lt (hne h1.sat)) h1.sat, h1.cB, v, Blk.of_heap (hg.block _ r1.lt (hne r1)) r1, ?_⟩, ⟨Nat.le_trans h2.size hg.size, fun q o hq hf => ?_⟩⟩
  · refine ⟨r2.1, ?_⟩
    rcases r2.2 with q | ⟨g', cap, cur, hv, hg', hh, rest⟩
    · exact .inl q
    · exact .inr ⟨g', cap, cur, hv, hg', Blk.of_heap (hg.block _ (Blk.lt (show Blk wx g' _ cur from hh)) (hne (show Blk wx g' _ cur from hh))) hh, rest⟩
  · have h3 := h2.block q o hq hf
    rw [hg.block q (heap_lt h3) (fun e => by have := Option.some.inj e; have := heap_lt hq; omega)]
    exact h3
theorem Blk.turn {wx wy : World} {b g : Nat} {t : TypeId} {cs : Array Value} (h : Blk wx g t cs) (hb : ∃ es cl, wx.heap[b]? = some (.map es cl)) (hg : wx.grownBy wy (some b)) : Blk wy g t cs := by
  obtain ⟨es, cl, hb⟩ := hb
  refine Blk.of_heap (hg.block _ h.lt (fun e => ?_)) h
  obtain rfl := Option.some.inj e
  unfold Blk at h
  rw [hb] at h
  cases h
end Go.Proofs.Ytenlffhoinialaa
end

section
namespace Go.Proofs.Ytenlffhoinialaa
open Go.RowKit
set_option maxHeartbeats 1000000

/-- A slice of a block of ints, that reads as xs. -/
def QS (w : World) (base : Nat) (v : Value) (xs : List Int) : Prop :=
  ∃ g off cap cur, v = .slice (some ⟨g, off, none⟩) xs.length cap ∧ xs.length ≤ cap ∧ base ≤ g ∧ Blk w g 3 cur ∧ off + cap ≤ cur.size ∧ ∀ j x, xs[j]? = some x → cur[off + j]? = some (.int .i64 x)
theorem QS.below {w w' : World} {base : Nat} {v : Value} {xs : List Int} (h : QS w base v xs) (hb : Below w.heap.size w w') : QS w' base v xs := by
  obtain ⟨g, off, cap, cur, h1, h2, h3, h4, h5⟩ := h
  exact ⟨g, off, cap, cur, h1, h2, h3, Blk.of_heap (hb.block _ h4.lt) h4, h5⟩
theorem QS.alloc {w : World} {base : Nat} {v : Value} {xs : List Int} (h : QS w base v xs) (o : Obj) : QS (w.alloc o) base v xs := h.below ((Below.refl _ _).alloc (Nat.le_refl _) o)
theorem QS.turn {wx wy : World} {base b : Nat} {v : Value} {xs : List Int} (h : QS wx base v xs) (hb : ∃ es cl, wx.heap[b]? = some (.map es cl)) (hg : wx.grownBy wy (some b)) : QS wy base v xs := by
  obtain ⟨g, off, cap, cur, h1, h2, h3, h4, h5⟩ := h
  exact ⟨g, off, cap, cur, h1, h2, h3, h4.turn hb hg, h5⟩
theorem QS.form {w : World} {base : Nat} {v : Value} {xs : List Int} (h : QS w base v xs) : ∃ g off cap, v = .slice (some ⟨g, off, none⟩) xs.length cap ∧ xs.length ≤ cap ∧ (∀ j x, xs[j]? = some x → w.cell? ⟨g, off + j, none⟩ = some (.int .i64 x)) := by
  obtain ⟨g, off, cap, cur, h1, h2, h3, h4, h5, h6⟩ := h
  exact ⟨g, off, cap, h1, h2, fun j x hx => (h4.cell _).trans (h6 j x hx)⟩
theorem QS.lit (w : World) (x : Int) {base : Nat} (hb : base ≤ w.heap.size) : QS (w.alloc (.cells #[.int .i64 x] 3)) base (.slice (some ⟨w.heap.size, 0, none⟩) 1 1) [x] :=
  ⟨_, 0, 1, _, rfl, Nat.le_refl _, hb, Blk.new _ _ _, Nat.le_refl _, fun j y hj => by
    cases j with
    | zero => simp at hj; subst hj; rfl
    | succ j => simp at hj⟩
/-- What is behind the head. -/
theorem QS.tail {w : World} {base g off n cap : Nat} {x : Int} {xs : List Int} (h : QS w base (.slice (some ⟨g, off, none⟩) n cap) (x :: xs)) : (cap = 1 → QS w base (.slice (some ⟨g, off, none⟩) 0 0) xs) ∧ (cap ≠ 1 → QS w base (.slice (some ⟨g, off + 1, none⟩) xs.length (cap - 1)) xs) := by
  obtain ⟨g', off', cap', cur, h1, h2, h3, h4, h5, h6⟩ := h
  injection h1 with e1 e2 e3
  injection e1 with e1
  injection e1 with e4 e5
  subst e4 e5 e3
  simp only [List.length_cons] at h2
  refine ⟨fun hc => ?_, fun hc => ?_⟩
  · subst hc
    have : xs = [] := List.length_eq_zero_iff.1 (by omega)
    subst this
    exact ⟨g, off, 0, cur, rfl, Nat.le_refl _, h3, h4, by omega, fun j x hj => by simp at hj⟩
  · exact ⟨g, off + 1, cap - 1, cur, rfl, by omega, h3, h4, by omega, fun j y hj => by rw [show off + 1 + j = off + (j + 1) by omega]; exact h6 (j + 1) y (by simpa using hj)⟩
theorem info_intq : (Try.prog.info? 3).map (fun i => (i.zero, i.size, i.bytes)) = some (some (.int .i64 0), 1, 8) := by kernel_rfl
section
variable {ops : Array Oper} {rest : List Oper} {o : Oper} {a : Act} {Q : Exit → Act → World → Prop}
theorem wpList_push (w : World) (hg : o.guard = none) (s x : Operand) (hop : o.op = Op.call { callee := Callee.builtin Builtin.append, args := #[s, x], argTypes := #[24, 24] }) (base : Nat) (v : Value) (xs : List Int) (hs : a.eval s = v) (h : QS w base v xs) (hlen : xs.length ≤ 1000000000) (hbase : base ≤ w.heap.size)
    (nb : Nat) (y : Int) (hx : a.eval x = .slice (some ⟨nb, 0, none⟩) 1 1) (hn : w.cell? ⟨nb, 0, none⟩ = some (.int .i64 y))
    (hK : ∀ v' w' row, QS w' base v' (xs ++ [y]) → w.grownBy w' row → (∀ q, row = some q → base ≤ q ∧ ∃ cs, Blk w q 3 cs) → wpList Try.prog ops Q rest (a.put o.dst v') w') : wpList Try.prog ops Q (o :: rest) a w := by
  obtain ⟨i0, hi, hz0, hz1, hz2⟩ := info_parts info_intq
  obtain ⟨g, off, cap, cur, rfl, h2, h3, h4, h5, h6⟩ := h
  refine wpList_plain hg fun K' hK' => ?_
  have hnews : ∀ j u, [Value.int .i64 y][j]? = some u → w.cell? ((⟨nb, 0, none⟩ : Addr).add j) = some u := fun j u hu => by
    cases j with
    | zero => simp at hu; subst hu; exact hn
    | succ j => simp at hu
  by_cases hr : xs.length + 1 ≤ cap
  · have hrun := run_append_room_cells (P := Try.prog) (w := w) 24 o.type 3 i0 Try.underlying24 hi g off xs.length cap ⟨nb, 0, none⟩ 1 1 [.int .i64 y] (by rw [hz1]; rfl) hnews (by intro u hu; simp at hu; subst hu; rfl) hr
      (fun j hj => by
        have : j = 0 := by simpa using hj
        subst this
        rw [hz1, Nat.mul_one, Nat.add_zero, h4.cell, Array.getElem?_eq_getElem (by omega)]; rfl) (fun j hj => h4.frozen _)
    rw [hz1, Nat.mul_one] at hrun
    have hQ : QS (w.setCells g (off + xs.length) [.int .i64 y]) base (.slice (some ⟨g, off, none⟩) (xs.length + 1) cap) (xs ++ [y]) := by
      refine ⟨g, off, cap, cur.setIfInBounds (off + xs.length) (.int .i64 y), by simp, by simpa using hr, h3, h4.set_ _ _, by simpa using h5, fun j x hj => ?_⟩
      by_cases e : j = xs.length
      · subst e
        have : y = x := by simpa using hj
        subst this
        rw [Array.getElem?_setIfInBounds_self, if_pos (by omega)]
      · have hjl : j < xs.length := by
          have := (List.getElem?_eq_some_iff.1 hj).1
          simp at this
          omega
        rw [Array.getElem?_setIfInBounds_ne (by omega)]
        exact h6 j x (by rw [List.getElem?_append_left hjl] at hj; exact hj)
    have hG : w.grownBy (w.setCells g (off + xs.length) [.int .i64 y]) (some g) := ⟨rfl, rfl, rfl, by simp [World.setCells, World.setCell], fun k _ hk => Below.heap_setCell _ _ _ _ (fun e => hk (by rw [e]))⟩
    unfold Oper.wp
    simp [execOp, hop, resolve, invoke, builtin, hx, hs, hrun, Result.andThen]
    exact hK' _ _ (hK _ _ _ hQ hG fun q hq => by obtain rfl := Option.some.inj hq; exact ⟨h3, cur, h4⟩)
  · obtain ⟨v', w', hrun, hown, hgr⟩ := run_append_arg_grows (P := Try.prog) (w := w) 24 o.type 3 i0 _ 1 8 Try.underlying24 hi hz0 hz1 hz2 rfl (by decide) ⟨g, off, none⟩ xs.length cap (xs.map fun x => .int .i64 x) (by simp) (fun j u hu => by
        rw [List.getElem?_map] at hu
        obtain ⟨x, hx', rfl⟩ := Option.map_eq_some_iff.1 hu
        rw [Addr.add_lit, h4.cell]
        exact h6 j x hx') ⟨nb, 0, none⟩ 1 1 [.int .i64 y] rfl hnews (by omega) (by simp only [maxLen]; omega) (by omega)
    have hQ : QS w' base v' (xs ++ [y]) := by
      rcases hown.2 with ⟨rfl, h0⟩ | ⟨g', cap', cur', rfl, hb, hh, h7, h8, h9, h10⟩
      · omega
      · refine ⟨g', 0, cap', cur', by simp, by simpa using h7, by omega, hh, by omega, fun j x hj => ?_⟩
        have hjl : j < xs.length + 1 := by
          have := (List.getElem?_eq_some_iff.1 hj).1
          simpa using this
        have h11 : ((xs.map fun x => Value.int .i64 x) ++ [.int .i64 y])[j]? = some (.int .i64 x) := by
          rw [show ((xs.map fun x => Value.int .i64 x) ++ [Value.int .i64 y]) = (xs ++ [y]).map (fun x => Value.int .i64 x) by simp, List.getElem?_map, hj]
          rfl
        rw [← h10, List.getElem?_take] at h11
        split at h11
        · rw [Nat.zero_add]; simpa using h11
        · cases h11
    unfold Oper.wp
    simp [execOp, hop, resolve, invoke, builtin, hx, hs, hrun, Result.andThen]
    exact hK' _ _ (hK _ _ _ hQ hgr fun q hq => by cases hq)
end
/-! ### What stays while the queue grows -/
section
variable {w0 w wx wy : World} {c sb : Nat} {iv ov mv : Value} {D : List Fnd} {rw_ : Option Nat}
theorem At.row (h : At w0 w wx c sb iv ov mv D) (hw0 : w0.heap.size ≤ w.heap.size) (hg : wx.grownBy wy rw_) (hr : ∀ q, rw_ = some q → w.heap.size ≤ q ∧ ∃ cs, Blk wx q 3 cs) : At w0 w wy c sb iv ov mv D := by
  have hne : ∀ {g : Nat} {t : TypeId} {cs : Array Value}, Blk wx g t cs → t ≠ 3 → some g ≠ rw_ := fun hq ht e => by
    obtain ⟨_, cs, hb⟩ := hr _ e.symm
    exact Blk.ne_ hq hb ht rfl
  obtain ⟨h1, h2⟩ := h
  obtain ⟨v, r1, r2⟩ := h1.row
  refine ⟨⟨h1.bel.trans ⟨hg.os, hg.tape, hg.output, hg.size, fun q hq => hg.block q (by have := h1.bel.size; omega) (fun e => by have := (hr q e.symm).1; omega)⟩, h1.sB, Blk.of_heap (hg.block _ h1.sat.lt (hne h1.sat (by decide))) h1.sat, h1.cB, v, Blk.of_heap (hg.block _ r1.lt (hne r1 (by decide))) r1, ?_⟩, ⟨Nat.le_trans h2.size hg.size, fun q o hq hf => ?_⟩⟩
  · refine ⟨r2.1, ?_⟩
    rcases r2.2 with q | ⟨g', cap, cur, hv, hg', hh, rest⟩
    · exact .inl q
    · exact .inr ⟨g', cap, cur, hv, hg', Blk.of_heap (hg.block _ (Blk.lt (show Blk wx g' _ cur from hh)) (hne (show Blk wx g' 64 cur from hh) (by decide))) hh, rest⟩
  · have h3 := h2.block q o hq hf
    rw [hg.block q (heap_lt h3) (fun e => by have := (hr q e.symm).1; have := heap_lt hq; omega)]
    exact h3
theorem MapB.row {b n : Nat} {f : Int → Bool} (h : MapB wx b n f) (hg : wx.grownBy wy rw_) (hr : ∀ q, rw_ = some q → w.heap.size ≤ q ∧ ∃ cs, Blk wx q 3 cs) : MapB wy b n f :=
  h.kept hg fun e => by
    obtain ⟨_, cs, hb⟩ := hr _ e.symm
    obtain ⟨es, cl, hq⟩ := h.obj
    unfold Blk at hb
    rw [hq] at hb
    cases hb
theorem MapI.row {b n : Nat} {f : Int → Int} (h : MapI wx b n f) (hg : wx.grownBy wy rw_) (hr : ∀ q, rw_ = some q → w.heap.size ≤ q ∧ ∃ cs, Blk wx q 3 cs) : MapI wy b n f :=
  h.kept hg fun e => by
    obtain ⟨_, cs, hb⟩ := hr _ e.symm
    obtain ⟨es, cl, hq⟩ := h.obj
    unfold Blk at hb
    rw [hq] at hb
    cases hb
theorem Blk.row {g : Nat} {t : TypeId} {cs : Array Value} (h : Blk wx g t cs) (ht : t ≠ 3) (hg : wx.grownBy wy rw_) (hr : ∀ q, rw_ = some q → w.heap.size ≤ q ∧ ∃ cs, Blk wx q 3 cs) : Blk wy g t cs :=
  Blk.of_heap (hg.block _ h.lt (fun e => by
    obtain ⟨_, cs, hb⟩ := hr _ e.symm
    exact Blk.ne_ h hb ht rfl)) h
end
end Go.Proofs.Ytenlffhoinialaa
end

section
namespace Go.Proofs.Ytenlffhoinialaa
open Go.RowKit
set_option maxHeartbeats 1000000

def entsOf (S : St) (i : Nat) : List Int := (List.range (S.ne i)).map (S.enu i)
def manyTo (S : St) (i : Nat) : List Int := (List.range i).flatMap fun i => if S.dir i then entsOf S i else []
def manyF (S : St) (x : Int) : Nat := (manyTo S S.inodes.length).count x
def add1 (F : List Int) (x : Int) : List Int := if F.contains x then F else F ++ [x]
def addAll (F : List Int) (es : List Int) : List Int := es.foldl add1 F
def kids (S : St) (x : Int) : List Int := match firstIx S x with
  | some i => if S.dir i then entsOf S i else []
  | none => []
def bfs (S : St) : Nat → List Int → Nat → List Int
  | 0, F, _ => F
  | f + 1, F, p => match F[p]? with
    | some x => bfs S f (addAll F (kids S x)) (p + 1)
    | none => F
def univ (S : St) : List Int := (List.range S.inodes.length).flatMap (entsOf S)
def foundF (S : St) : List Int := bfs S ((univ S).length + 2) [1] 0
def foundB (S : St) (x : Int) : Bool := (foundF S).contains x
def out (U F : List Int) : Nat := (U.filter fun x => !F.contains x).length

theorem entsOf_len (S : St) (i : Nat) : (entsOf S i).length = S.ne i := by simp [entsOf]
theorem univ_len (S : St) (hs : S.small) : (univ S).length ≤ 1000000 := by
  unfold univ
  have := flat_len (f := entsOf S) (c := 1000) (fun i => by rw [entsOf_len]; exact hs.en i) S.inodes.length
  have := hs.ni
  omega
theorem mem_univ {S : St} {i k : Nat} (hi : i < S.inodes.length) (hk : k < S.ne i) : S.enu i k ∈ univ S := by
  unfold univ entsOf
  rw [List.mem_flatMap]
  exact ⟨i, by simpa using hi, by rw [List.mem_map]; exact ⟨k, by simpa using hk, rfl⟩⟩
theorem filter_lt {A : Type} {p q : A → Bool} (h : ∀ x, q x = true → p x = true) {y : A} : ∀ {l : List A}, y ∈ l → p y = true → q y = false → (l.filter q).length + 1 ≤ (l.filter p).length
  | [], hy, _, _ => by simp at hy
  | a :: l, hy, hp, hq => by
    have hle : ∀ l : List A, (l.filter q).length ≤ (l.filter p).length := by
      intro l
      induction l with
      | nil => simp
      | cons a l ih =>
        rw [List.filter_cons, List.filter_cons]
        by_cases h1 : q a = true
        · rw [if_pos h1, if_pos (h a h1)]; simp; exact ih
        · rw [if_neg h1]
          split
          · simp; omega
          · exact ih
    rw [List.filter_cons, List.filter_cons]
    rcases List.mem_cons.1 hy with rfl | hy
    · rw [if_pos hp, if_neg (by simp [hq])]
      have := hle l
      simp; omega
    · have ih := filter_lt h hy hp hq
      by_cases h1 : q a = true
      · rw [if_pos h1, if_pos (h a h1)]; simp; omega
      · rw [if_neg h1]
        split
        · simp; omega
        · exact ih
theorem add1_out {U F : List Int} {x : Int} (hx : x ∈ U) (hF : F.contains x = false) : (F ++ [x]).length + out U (F ++ [x]) ≤ F.length + out U F := by
  have h := filter_lt (p := fun y => !F.contains y) (q := fun y => !(F ++ [x]).contains y) (fun y hy => by
    have h2 : y ∉ F ++ [x] := by simpa using hy
    have h3 : y ∉ F := fun h => h2 (List.mem_append_left _ h)
    simpa using h3) hx (by rw [hF]; rfl) (by simp)
  unfold out
  simp only [List.length_append, List.length_singleton]
  omega
theorem addAll_snoc (F : List Int) (es : List Int) (x : Int) : addAll F (es ++ [x]) = add1 (addAll F es) x := by
  unfold addAll
  rw [List.foldl_append]; rfl
theorem entsTo_snoc (S : St) (i k : Nat) : (List.range (k + 1)).map (S.enu i) = (List.range k).map (S.enu i) ++ [S.enu i k] := by
  rw [List.range_succ, List.map_append]; rfl
theorem manyTo_succ (S : St) (i : Nat) : manyTo S (i + 1) = manyTo S i ++ if S.dir i then entsOf S i else [] := flat_succ _ i
theorem manyTo_len (S : St) (hs : S.small) (i : Nat) (hi : i ≤ 1000) : (manyTo S i).length ≤ 1000000 := by
  unfold manyTo
  have := flat_len (f := fun i => if S.dir i then entsOf S i else []) (c := 1000) (fun i => by
    have := hs.en i
    have h2 := entsOf_len S i
    show (if S.dir i then entsOf S i else []).length ≤ 1000
    split
    · omega
    · simp) i
  have h2 : i * 1000 ≤ 1000 * 1000 := Nat.mul_le_mul_right _ hi
  omega
theorem count_snoc (L : List Int) (x y : Int) : ((L ++ [x]).count y : Int) = if y = x then (L.count x : Int) + 1 else (L.count y : Int) := by
  rw [List.count_append, List.count_singleton]
  by_cases e : y = x
  · subst e; simp
  · rw [if_neg e]
    have : (x == y) = false := by simpa using fun h : x = y => e h.symm
    simp [this]
theorem contains_snoc (F : List Int) (x y : Int) : (F ++ [x]).contains y = if y = x then true else F.contains y := by
  by_cases e : y = x
  · subst e; simp
  · rw [if_neg e]; simp [e]
end Go.Proofs.Ytenlffhoinialaa
end

section
namespace Go.Proofs.Ytenlffhoinialaa
open Go.RowKit
set_option maxHeartbeats 2000000
attribute [local go_sem ↓] Go.wp_at_zero Go.wp_at_succ
set_option maxRecDepth 1000000 in
theorem found_calls {w0 w : World} {c sb : Nat} {iv ov mv : Value} {ev : Nat → Value} {S : St} {D : List Fnd} (h : Ck w0 w c sb iv ov mv D) (hS : StM w0 iv ov mv ev S) (hs : S.small) :
    Calls Try.prog 75 #[.pointer (some ⟨c, 0, none⟩)] w fun e w' => ∃ fb mb nf nm, e = .returned (.tuple #[.map (some fb), .map (some mb)]) ∧ At w0 w w' c sb iv ov mv D ∧ MapB w' fb nf (foundB S) ∧ MapI w' mb nm (fun x => (manyF S x : Nat)) := by
  obtain ⟨A, cap, rfl⟩ := hS.ino.form
  have hn := hs.ni
  have HN0 := Lib.hid hs.ni
  have hw0 : w0.heap.size ≤ w.heap.size := h.bel.size
  have HC := Lib.hid h
  have HS := Lib.hid hS
  have HSm := Lib.hid hs
  clear h hS hs
  obtain ⟨n, hnn⟩ : ∃ n, S.inodes.length = n := ⟨_, rfl⟩
  rw [hnn] at hn HC HS
  have HI := Lib.hid (show RowAt w0 (.slice A n cap) n 4 (inoC S ev) from hnn ▸ HS.out.ino)
  have HNN := Lib.hid hnn
  clear hnn
  have hmm := @run_makeMap Try.prog
  go_enter Try.func75, Try.ntmps75
  go_upto_region 1 with (fail)
  go_cut [4, 5] (fun m1 m2 wx => ∃ fb mb, m1 = .map (some fb) ∧ m2 = .map (some mb) ∧ w.heap.size ≤ fb ∧ w.heap.size ≤ mb ∧ fb ≠ mb ∧ At w0 w wx c sb (.slice A n cap) ov mv D ∧ MapB wx fb 1 (fun x => [1].contains x) ∧ MapI wx mb 0 (fun _ => 0))
  case first =>
    have HM1 := Lib.hid (MapB.made w)
    have HA1 := Lib.hid ((At.start HC.out).alloc (.map #[] 0))
    go_wp2_with (with_reducible refine wpList_setB _ rfl (.tmp 14) (.const (.int .i64 1)) (.const (.bool true)) (.inr rfl) w.heap.size 0 (fun _ => false) rfl HM1.out (by decide) 1 (by decide) rfl true rfl ?_; intro w1 hM1 hG1)
    have hob := HM1.out.obj
    have HA2 := Lib.hid (((HA1.out.turn hob (Nat.le_refl _) hw0 hG1).alloc (.map #[] 0)))
    have HM2 := Lib.hid (hM1.alloc (.map #[] 0))
    have HM3 := Lib.hid (MapI.made w1)
    have hlt : w.heap.size < w1.heap.size := by have := hG1.size; simp at this; omega
    go_meet
    case rel => exact ⟨_, _, rfl, rfl, Nat.le_refl _, by omega, by omega, HA2.out, HM2.out.congr (fun i => by by_cases e : i = 1 <;> simp [e]), HM3.out⟩
  case rest =>
    obtain ⟨fb, mb, rfl, rfl, hfb, hmb, hfm, hat, hmB, hmI⟩ := hcut
    have HAT := Lib.hid hat
    have HMB := Lib.hid hmB
    have HMI := Lib.hid hmI
    have c0 := hat.1.c0
    have s0 := hat.1.s0
    clear hat hmB hmI HC
    go_wp2_with (fail)
    clear c0 s0
    go_loopw [25] (fun i wr => ∃ k : Nat, i = .int .i64 k ∧ k ≤ n ∧ At w0 w wr c sb (.slice A n cap) ov mv D ∧ MapB wr fb 1 (fun x => [1].contains x) ∧ MapI wr mb (manyTo S k).length (fun x => ((manyTo S k).count x : Nat))) (fun i _ => n - (intOf i).toNat)
    case atStart => exact ⟨0, rfl, by omega, HAT.out, HMB.out, HMI.out⟩
    case round =>
      obtain ⟨k, rfl, hk, hat, hmB, hmI⟩ := hrel
      have HAT := Lib.hid hat
      have HMB := Lib.hid hmB
      have HMI := Lib.hid hmI
      clear hat hmB hmI
      by_cases hp : k < n
      ·
        --[
        obtain ⟨-, hcap, g, off, rfl, hcell⟩ := (HI.out.keep HAT.out.1.bel).at_ hp
        have q0 : wr.cell? ⟨g, off + k * 4, none⟩ = some (.int .i64 (S.num k)) := hcell 0 (by omega)
        have q1 : wr.cell? ⟨g, off + k * 4 + 1, none⟩ = some (.bool (S.dir k)) := hcell 1 (by omega)
        have q2 : wr.cell? ⟨g, off + k * 4 + 2, none⟩ = some (ev k) := hcell 2 (by omega)
        have q3 : wr.cell? ⟨g, off + k * 4 + 3, none⟩ = some (.string (S.dat k)) := hcell 3 (by omega)
        have hp1 : (k : Int) < n := by omega
        clear hcell
        have hent := HS.out.ent k (by rw [HNN.out]; exact hp)
        obtain ⟨EA, ecap, hev⟩ := hent.form
        rw [hev] at q2 hent
        have hne := HSm.out.en k
        have HENT := Lib.hid hent
        have HMS := Lib.hid (manyTo_succ S k)
        have HML := Lib.hid (manyTo_len S HSm.out k (by omega))
        have HSN := Lib.hid (entsTo_snoc S k)
        have HEU := Lib.hid (fun j => HSm.out.enu k j)
        have HEO := Lib.hid (show entsOf S k = (List.range (S.ne k)).map (S.enu k) from rfl)
        clear hent hev
        generalize hnee : S.ne k = ne at *
        have HNE := Lib.hid hnee
        clear hnee
        generalize S.num k = x at *
        generalize S.dir k = dv at *
        generalize S.dat k = dt at *
        have HX := Lib.hid (Blk.new wr 56 #[.int .i64 x, .bool dv, .slice EA ne ecap, .string dt])
        have HAX := Lib.hid (HAT.out.alloc (Obj.cells #[Value.int IntKind.i64 x, Value.bool dv, Value.slice EA ne ecap, Value.string dt] 56))
        have HBX := Lib.hid (HMB.out.alloc (Obj.cells #[Value.int IntKind.i64 x, Value.bool dv, Value.slice EA ne ecap, Value.string dt] 56))
        have HIX := Lib.hid (HMI.out.alloc (Obj.cells #[Value.int IntKind.i64 x, Value.bool dv, Value.slice EA ne ecap, Value.string dt] 56))
        have hxw : w.heap.size ≤ wr.heap.size := HAT.out.2.size
        clear HAT HMB HMI
        go_wp2_with (fail)
        clear q0 q1 q2 q3
        obtain ⟨wy, hwy⟩ : ∃ wy, wy = wr.alloc (Obj.cells #[Value.int IntKind.i64 x, Value.bool dv, Value.slice EA ne ecap, Value.string dt] 56) := ⟨_, rfl⟩
        rw [← hwy] at HX HAX HBX HIX ⊢
        clear hwy
        generalize wr.heap.size = xg at *
        go_loopw [32] (fun i wr => ∃ j : Nat, i = .int .i64 j ∧ j ≤ ne ∧ At w0 w wr c sb (.slice (some ⟨g, off, none⟩) n cap) ov mv D ∧ MapB wr fb 1 (fun x => [1].contains x) ∧ MapI wr mb (manyTo S k ++ if dv then (List.range j).map (S.enu k) else []).length (fun x => ((manyTo S k ++ if dv then (List.range j).map (S.enu k) else []).count x : Nat)) ∧ Blk wr xg 56 #[.int .i64 x, .bool dv, .slice EA ne ecap, .string dt]) (fun i _ => ne - (intOf i).toNat)
        case atStart => exact ⟨0, rfl, by omega, HAX.out, HBX.out, by simpa using HIX.out, HX.out⟩
        case round =>
          obtain ⟨j, rfl, hj, hat, hmB, hmI, hbx⟩ := hrel
          have HAT := Lib.hid hat
          have HMB := Lib.hid hmB
          have HBL := Lib.hid hbx
          by_cases hpj : j < ne
          · have HMI := Lib.hid hmI
            clear hat hmB hmI hbx HAX HBX HIX HX
            obtain ⟨-, -, eg, eoff, rfl, hcell⟩ := (HENT.out.keep HAT.out.1.bel).at_ hpj
            have q0 : wr.cell? ⟨eg, eoff + j * 2, none⟩ = some (.string (S.enm k j)) := hcell 0 (by omega)
            have q1 : wr.cell? ⟨eg, eoff + j * 2 + 1, none⟩ = some (.int .i64 (S.enu k j)) := hcell 1 (by omega)
            have hp2 : (j : Int) < ne := by omega
            have hnu := HEU.out j
            have HSJ := Lib.hid (HSN.out j)
            clear hcell
            generalize S.enm k j = nm at *
            generalize S.enu k j = nu at *
            have HBL2 := Lib.hid (HBL.out.alloc (Obj.cells #[.string nm, .int .i64 nu] 58))
            have HAT2 := Lib.hid (HAT.out.alloc (Obj.cells #[.string nm, .int .i64 nu] 58))
            have HMB2 := Lib.hid (HMB.out.alloc (Obj.cells #[.string nm, .int .i64 nu] 58))
            have HMI2 := Lib.hid (HMI.out.alloc (Obj.cells #[.string nm, .int .i64 nu] 58))
            have x1 : (wr.alloc (Obj.cells #[.string nm, .int .i64 nu] 58)).cell? ⟨xg, 1, none⟩ = some (.bool dv) := HBL2.out.cell 1
            clear HBL HAT HMB HMI
            rcases bool_tf dv with rfl | rfl
            · have HL := Lib.hid (show (manyTo S k ++ (List.range (j + 1)).map (S.enu k)) = (manyTo S k ++ (List.range j).map (S.enu k)) ++ [nu] by rw [HSJ.out, List.append_assoc])
              have HMI2 := Lib.hid (show MapI (wr.alloc (Obj.cells #[.string nm, .int .i64 nu] 58)) mb (manyTo S k ++ (List.range j).map (S.enu k)).length (fun x => ((manyTo S k ++ (List.range j).map (S.enu k)).count x : Nat)) from HMI2.out)
              have HLL := Lib.hid (show (manyTo S k ++ (List.range j).map (S.enu k)).length ≤ 1001000 by rw [List.length_append, List.length_map, List.length_range]; have := HML.out; omega)
              generalize manyTo S k ++ (List.range j).map (S.enu k) = L at *
              have hlook := HMI2.out.look hnu
              have hcl : (L.count nu : Int) ≤ 1001000 := by have := List.count_le_length (a := nu) (l := L); have := HLL.out; omega
              have hc0 : (0 : Int) ≤ (L.count nu : Int) := by omega
              have HK := Lib.hid (show ∀ y : Int, y = (L.count nu : Int) + 1 → ∀ z, (if z = nu then y else (L.count z : Int)) = ((L ++ [nu]).count z : Nat) from fun y hy z => by rw [count_snoc, hy])
              generalize hcn : (L.count nu : Int) = cn at *
              have HCN := Lib.hid hcn
              clear hcn
              go_wp2_with (at_mapUpdate; refine wpList_setI _ rfl (.tmp 38) (.tmp 40) (.tmp 42) rfl mb L.length _ rfl HMI2.out (by have := HLL.out; omega) nu hnu rfl (cn + 1) ⟨by omega, by omega⟩ rfl ?_; intro w5 hM5 hG5)
              have hob := HMI2.out.obj
              have HR1 := Lib.hid (HAT2.out.turn hob hmb hw0 hG5)
              have HR2 := Lib.hid (HMB2.out.kept hG5 (fun e => hfm (Option.some.inj e)))
              have HR3 := Lib.hid (show MapI w5 mb (L ++ [nu]).length (fun x => ((L ++ [nu]).count x : Nat)) from by
                have := hM5.congr (fun z => HK.out (cn + 1) rfl z)
                simpa using this)
              have HR4 := Lib.hid (HBL2.out.turn hob hG5)
              clear hM5 hG5 hob hlook
              go_wp2_with (fail)
              go_roundw
              case rel => exact ⟨j + 1, by go_num, by omega, HR1.out, HR2.out, by rw [HL.out]; exact HR3.out, HR4.out⟩
              case measure =>
                simp only [intOf]
                omega
            · go_wp2_with (fail)
              go_roundw
              case rel => exact ⟨j + 1, by go_num, by omega, HAT2.out, HMB2.out, HMI2.out, HBL2.out⟩
              case measure =>
                simp only [intOf]
                omega
          · have e : j = ne := by omega
            subst e
            have HMI := Lib.hid (show MapI wr mb (manyTo S (k + 1)).length (fun x => ((manyTo S (k + 1)).count x : Nat)) by rw [HMS.out, HEO.out]; exact hmI)
            clear hat hmB hmI hbx HAX HBX HIX HX
            go_wp2_with (fail)
            go_roundw
            case rel => exact ⟨k + 1, by go_num, by omega, HAT.out, HMB.out, HMI.out⟩
            case measure =>
              simp only [intOf]
              omega
        --]
      · have e : k = n := by omega
        subst e
        have HM := Lib.hid (HMI.out.congr (fun x => (show (((manyTo S k).count x : Nat) : Int) = (manyF S x : Nat) by unfold manyF; rw [HNN.out])))
        clear HMI
        generalize (manyTo S k).length = nm at *
        have HQ := Lib.hid (QS.lit wr 1 HAT.out.2.size)
        have HAQ := Lib.hid (HAT.out.alloc (Obj.cells #[.int .i64 1] 3))
        have HBQ := Lib.hid (HMB.out.alloc (Obj.cells #[.int .i64 1] 3))
        have HIQ := Lib.hid (HM.out.alloc (Obj.cells #[.int .i64 1] 3))
        clear HAT HMB HM
        go_wp2_with (fail)
        obtain ⟨wy, hwy⟩ : ∃ wy, wy = wr.alloc (Obj.cells #[.int .i64 1] 3) := ⟨_, rfl⟩
        rw [← hwy] at HQ HAQ HBQ HIQ ⊢
        clear hwy
        generalize wr.heap.size = tb at *
        go_loopg [10] ((univ S).length + 2) (fun f todo wr => ∃ (F : List Int) (p : Nat), f + p = (univ S).length + 2 ∧ F.length + out (univ S) F ≤ (univ S).length + 1 ∧ p ≤ F.length ∧ foundF S = bfs S f F p ∧ At w0 w wr c sb (.slice A k cap) ov mv D ∧ QS wr w.heap.size todo (F.drop p) ∧ MapB wr fb F.length (fun x => F.contains x) ∧ MapI wr mb nm (fun x => (manyF S x : Nat)))
        case atStart => exact ⟨[1], 0, by omega, (by have := List.length_filter_le (fun x => !([1] : List Int).contains x) (univ S); unfold out; simp only [List.length_singleton]; omega), by simp, rfl, HAQ.out, HQ.out, HBQ.out, HIQ.out⟩
        case round =>
          obtain ⟨F, p, hf, hF, hpF, hbf, hat, hq, hmB, hmI⟩ := hrel
          have HAT := Lib.hid hat
          have HMB := Lib.hid hmB
          have HMI := Lib.hid hmI
          have HQ := Lib.hid hq
          have HBF := Lib.hid hbf
          have HFB := Lib.hid hF
          have HFP := Lib.hid hf
          obtain ⟨tg, toff, tcap, rfl, htc, htcell⟩ := hq.form
          clear hat hmB hmI hq hbf hF hf HAQ HBQ HIQ
          by_cases hp2 : p < F.length
          · obtain ⟨x, rest, hd⟩ : ∃ x rest, F.drop p = x :: rest := ⟨F[p], F.drop (p + 1), List.drop_eq_getElem_cons hp2⟩
            have hx := htcell 0 x (by rw [hd]; rfl)
            have HFX := Lib.hid (show F[p]? = some x by have := congrArg (fun l => l[0]?) hd; simpa using this)
            have HRS := Lib.hid (show rest = F.drop (p + 1) by have := congrArg List.tail hd; simpa using this.symm)
            rw [Nat.add_zero] at hx
            clear htcell
            have htn : 0 < (F.drop p).length := by rw [hd]; simp
            have htn2 : (0 : Int) < ((F.drop p).length : Int) := by omega
            have HTL := Lib.hid (show (F.drop p).length = rest.length + 1 by rw [hd]; rfl)
            have HDD := Lib.hid hd
            clear hd
            generalize (F.drop p).length = tl at *
            obtain ⟨wo, rfl⟩ : ∃ wo : World, wo = wr := ⟨_, rfl⟩
            go_upto_block 5 with (fail)
            go_cut [10] (fun todo wx => ∃ F' : List Int, F' = addAll F (kids S x) ∧ F'.length + out (univ S) F' ≤ (univ S).length + 1 ∧ p < F'.length ∧ At w0 w wx c sb (.slice A k cap) ov mv D ∧ QS wx w.heap.size todo (F'.drop p) ∧ MapB wx fb F'.length (fun x => F'.contains x) ∧ MapI wx mb nm (fun x => (manyF S x : Nat)))
            case first =>
              have hnr := HNN.out
              have HII := Lib.hid (show RowAt wo (.slice A k cap) S.inodes.length 4 (inoC S ev) by rw [hnr]; exact HI.out.keep HAT.out.1.bel)
              clear hnr
              rcases hfi : firstIx S x with _ | i
              · have HF := Lib.hid (first_none HAT.out.1.c0 HAT.out.1.s0 HII.out HN0.out hfi)
                have HKI := Lib.hid (show addAll F (kids S x) = F by unfold kids; rw [hfi]; rfl)
                clear hfi
                go_wp2_with (go_at_call 72; refine HF.out.mono ?_; rintro e w' ⟨rfl, hw⟩; obtain rfl := hw.symm)
                go_meet
                case rel => exact ⟨F, HKI.out.symm, HFB.out, hp2, HAT.out, HQ.out, HMB.out, HMI.out⟩
              · obtain ⟨g, off, rfl, hil, _, hcall⟩ := first_some HAT.out.1.c0 HAT.out.1.s0 HII.out HN0.out hfi
                have HF := Lib.hid hcall
                obtain ⟨-, -, g', off', e, hcell⟩ := HII.out.at_ hil
                injection e with e
                injection e with e1 e2
                subst e1 e2
                have y1 : wo.cell? ⟨g, off + i * 4 + 1, none⟩ = some (.bool (S.dir i)) := hcell 1 (by omega)
                have y2 : wo.cell? ⟨g, off + i * 4 + 2, none⟩ = some (ev i) := hcell 2 (by omega)
                have HKI := Lib.hid (show kids S x = if S.dir i then entsOf S i else [] by unfold kids; rw [hfi])
                have hent := HS.out.ent i hil
                obtain ⟨EA, ecap, hev⟩ := hent.form
                rw [hev] at y2 hent
                have hne := HSm.out.en i
                have HENT := Lib.hid hent
                have HSN := Lib.hid (entsTo_snoc S i)
                have HEU := Lib.hid (fun j => HSm.out.enu i j)
                have HMU := Lib.hid (fun j (h : j < S.ne i) => mem_univ hil h)
                have HEO := Lib.hid (show entsOf S i = (List.range (S.ne i)).map (S.enu i) from rfl)
                clear hfi hcall hcell hent hev
                generalize S.ne i = ne at *
                generalize S.dir i = dv at *
                rcases bool_tf dv with rfl | rfl
                · go_wp2_with (go_at_call 72; refine HF.out.mono ?_; rintro e w' ⟨rfl, hw⟩; obtain rfl := hw.symm)
                  clear hx y1 y2 HF
                  go_loopw [10, 70] (fun todo kk wr => ∃ (j : Nat) (Fj : List Int), kk = .int .i64 j ∧ j ≤ ne ∧ Fj = addAll F ((List.range j).map (S.enu i)) ∧ Fj.length + out (univ S) Fj ≤ (univ S).length + 1 ∧ p < Fj.length ∧ At w0 w wr c sb (.slice (some ⟨g, off, none⟩) k cap) ov mv D ∧ QS wr w.heap.size todo (Fj.drop p) ∧ MapB wr fb Fj.length (fun x => Fj.contains x) ∧ MapI wr mb nm (fun x => (manyF S x : Nat))) (fun _ kk _ => ne - (intOf kk).toNat)
                  case atStart => exact ⟨0, F, rfl, by omega, rfl, HFB.out, hp2, HAT.out, HQ.out, HMB.out, HMI.out⟩
                  case round =>
                    obtain ⟨j, Fj, rfl, hj, hFj, hFjb, hpj, hat, hq, hmB, hmI⟩ := hrel
                    have HAT := Lib.hid hat
                    have HMB := Lib.hid hmB
                    have HMI := Lib.hid hmI
                    have HQ := Lib.hid hq
                    have HFJ := Lib.hid hFj
                    have HFJB := Lib.hid hFjb
                    clear hat hmB hmI hq hFj hFjb
                    by_cases hlt : j < ne
                    · obtain ⟨-, -, eg, eoff, rfl, hcell⟩ := (HENT.out.keep HAT.out.1.bel).at_ hlt
                      have r0 : wr.cell? ⟨eg, eoff + j * 2, none⟩ = some (.string (S.enm i j)) := hcell 0 (by omega)
                      have r1 : wr.cell? ⟨eg, eoff + j * 2 + 1, none⟩ = some (.int .i64 (S.enu i j)) := hcell 1 (by omega)
                      have hlt2 : (j : Int) < ne := by omega
                      have hnu := HEU.out j
                      have HMX := Lib.hid (HMU.out j hlt)
                      have HSJ := Lib.hid (show addAll F ((List.range (j + 1)).map (S.enu i)) = add1 Fj (S.enu i j) by rw [HSN.out j, addAll_snoc, ← HFJ.out])
                      clear hcell HFJ
                      generalize S.enm i j = nme at *
                      generalize S.enu i j = nu at *
                      have HE := Lib.hid (Blk.new wr 58 #[.string nme, .int .i64 nu])
                      have HAT2 := Lib.hid (HAT.out.alloc (Obj.cells #[.string nme, .int .i64 nu] 58))
                      have HMB2 := Lib.hid (HMB.out.alloc (Obj.cells #[.string nme, .int .i64 nu] 58))
                      have HMI2 := Lib.hid (HMI.out.alloc (Obj.cells #[.string nme, .int .i64 nu] 58))
                      have HQ2 := Lib.hid (HQ.out.alloc (Obj.cells #[.string nme, .int .i64 nu] 58))
                      have hwr : w.heap.size ≤ wr.heap.size := HAT.out.2.size
                      clear HAT HMB HMI HQ
                      have hlook := HMB2.out.look hnu
                      generalize hcb : Fj.contains nu = cb at hlook
                      have HCB := Lib.hid hcb
                      clear hcb
                      have HUL := Lib.hid (univ_len S HSm.out)
                      rcases bool_tf cb with rfl | rfl
                      · have HS1 := Lib.hid (show Fj = addAll F ((List.range (j + 1)).map (S.enu i)) by rw [HSJ.out]; unfold add1; rw [if_pos HCB.out])
                        go_wp2_with (fail)
                        go_roundw
                        case rel => exact ⟨j + 1, Fj, by go_num, by omega, HS1.out, HFJB.out, hpj, HAT2.out, HQ2.out, HMB2.out, HMI2.out⟩
                        case measure =>
                          simp only [intOf]
                          omega
                      · have HS1 := Lib.hid (show Fj ++ [nu] = addAll F ((List.range (j + 1)).map (S.enu i)) by rw [HSJ.out]; unfold add1; rw [if_neg (by rw [HCB.out]; decide)])
                        have HO := Lib.hid (add1_out HMX.out HCB.out)
                        have hbase : w.heap.size ≤ wr.heap.size := hwr
                        have HLB := Lib.hid (show (Fj.drop p).length ≤ 1000000000 by rw [List.length_drop]; have := HFJB.out; have := HUL.out; omega)
                        go_wp2_with (first | (at_mapUpdate; refine wpList_setB _ rfl (.tmp 79) (.tmp 81) (.const (.bool true)) (.inl rfl) fb Fj.length _ rfl HMB2.out (by have := HFJB.out; have := HUL.out; omega) nu hnu rfl true rfl ?_; intro w5 hM5 hG5; have e1 : w5.cell? ⟨wr.heap.size, 1, none⟩ = some (.int .i64 nu) := (HE.out.turn HMB2.out.obj hG5).cell 1) | (at_builtin; refine wpList_push _ rfl (.tmp 82) (.tmp 85) rfl w.heap.size _ _ rfl ((HQ2.out.turn HMB2.out.obj hG5).alloc (Obj.cells #[.int .i64 nu] 3)) HLB.out (by have := hG5.size; simp at this ⊢; omega) w5.heap.size nu rfl ((Blk.new w5 3 #[.int .i64 nu]).cell 0) ?_; intro v6 w6 row6 hQ6 hG6 hR6))
                        have hob := HMB2.out.obj
                        have hbi := (HMI2.out.kept hG5 (fun e => hfm (Option.some.inj e).symm))
                        have HR1 := Lib.hid (((HAT2.out.turn hob hfb hw0 hG5).alloc (Obj.cells #[.int .i64 nu] 3)).row hw0 hG6 hR6)
                        have HR2 := Lib.hid ((hM5.alloc (Obj.cells #[.int .i64 nu] 3)).row hG6 hR6)
                        have HR3 := Lib.hid ((hbi.alloc (Obj.cells #[.int .i64 nu] 3)).row hG6 hR6)
                        have HR5 := Lib.hid (show QS w6 w.heap.size v6 ((Fj ++ [nu]).drop p) by rw [List.drop_append_of_le_length (by omega)]; exact hQ6)
                        clear hQ6 hG6 hR6 hM5 hG5 hbi hob e1 hlook
                        go_wp2_with (fail)
                        go_roundw
                        case rel => exact ⟨j + 1, Fj ++ [nu], by go_num, by omega, HS1.out, Nat.le_trans HO.out HFJB.out, by simp; omega, HR1.out, HR5.out, by rw [show (Fj ++ [nu]).length = Fj.length + 1 by simp]; exact HR2.out.congr (fun z => (contains_snoc Fj nu z).symm), HR3.out⟩
                        case measure =>
                          simp only [intOf]
                          omega
                    · have e : j = ne := by omega
                      subst e
                      have HFE := Lib.hid (show Fj = addAll F (kids S x) by rw [HFJ.out, HKI.out, HEO.out]; simp)
                      go_wp2_with (fail)
                      go_meet
                      case rel => exact ⟨Fj, HFE.out, HFJB.out, hpj, HAT.out, HQ.out, HMB.out, HMI.out⟩
                · have HKI := Lib.hid (show addAll F (kids S x) = F by rw [HKI.out, if_neg (by decide)]; rfl)
                  go_wp2_with (go_at_call 72; refine HF.out.mono ?_; rintro e w' ⟨rfl, hw⟩; obtain rfl := hw.symm)
                  go_meet
                  case rel => exact ⟨F, HKI.out.symm, HFB.out, hp2, HAT.out, HQ.out, HMB.out, HMI.out⟩
            case rest =>
              obtain ⟨F', hF', hFB', hp3, hat, hq, hmB, hmI⟩ := hcut
              have HAT2 := Lib.hid hat
              have HMB2 := Lib.hid hmB
              have HMI2 := Lib.hid hmI
              have HFB2 := Lib.hid hFB'
              obtain ⟨f, hff⟩ : ∃ f, gk = f + 1 := ⟨gk - 1, by
                have h1 := HFP.out
                have h2 := HFB.out
                omega⟩
              have HBN := Lib.hid (show foundF S = bfs S f F' (p + 1) by
                rw [HBF.out, hff, hF']
                show (match F[p]? with
                  | some x => bfs S f (addAll F (kids S x)) (p + 1)
                  | none => F) = _
                rw [HFX.out])
              have HFF := Lib.hid (show f + (p + 1) = (univ S).length + 2 by have := HFP.out; omega)
              have HFG := Lib.hid (show f < gk by omega)
              obtain ⟨y, rest', hd⟩ : ∃ y rest', F'.drop p = y :: rest' := ⟨F'[p], F'.drop (p + 1), List.drop_eq_getElem_cons hp3⟩
              have HR2 := Lib.hid (show rest' = F'.drop (p + 1) by have := congrArg List.tail hd; simpa using this.symm)
              rw [hd] at hq
              obtain ⟨qg, qo, qc, rfl, hqc, _⟩ := hq.form
              have HT := Lib.hid hq.tail
              simp only [List.length_cons] at hqc HT ⊢
              clear hat hq hmB hmI hFB' hF' hff hd HAT HMB HMI HQ HBF HFX HRS HFP hx
              generalize rest'.length = rl at *
              by_cases hc1 : qc = 1
              · subst hc1
                have e : rl = 0 := by omega
                subst e
                go_wp2_with (fail)
                go_roundg f
                case measure => exact HFG.out
                case rel => exact ⟨F', p + 1, HFF.out, HFB2.out, hp3, HBN.out, HAT2.out, HR2.out ▸ HT.out.1 (by first | rfl | trivial), HMB2.out, HMI2.out⟩
              · go_wp2_with (fail)
                go_roundg f
                case measure => exact HFG.out
                case rel => exact ⟨F', p + 1, HFF.out, HFB2.out, hp3, HBN.out, HAT2.out, HR2.out ▸ HT.out.2 hc1, HMB2.out, HMI2.out⟩
          · have hz : (F.drop p).length = 0 := by rw [List.length_drop]; omega
            have HFE := Lib.hid (show foundF S = F by
              rw [HBF.out]
              have hn : F[p]? = none := List.getElem?_eq_none (by omega)
              cases gk with
              | zero => rfl
              | succ f => show (match F[p]? with
                  | some x => bfs S f (addAll F (kids S x)) (p + 1)
                  | none => F) = F
                          rw [hn])
            rw [hz]
            clear htcell hz
            go_wp2_with (fail)
            go_ret2
            exact ⟨fb, mb, _, _, rfl, by rw [HNN.out]; exact HAT.out, HMB.out.congr (fun x => by unfold foundB; rw [HFE.out]), HMI.out⟩
end Go.Proofs.Ytenlffhoinialaa
end

