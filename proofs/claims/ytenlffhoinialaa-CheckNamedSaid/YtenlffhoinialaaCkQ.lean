
/- check: a queue of ints. -/
import Derived.Test.YtenlffhoinialaaCkMap
namespace Go.Proofs.Ytenlffhoinialaa
open Go.RowKit
set_option maxHeartbeats 1000000

/-- A slice of a block of ints, that reads as xs. -/
def QS (w : World) (base : Nat) (v : Value) (xs : List Int) : Prop :=
  ∃ g off cap cur, v = .slice (some ⟨g, off, none⟩) xs.length cap ∧ xs.length ≤ cap ∧ base ≤ g ∧ Blk w g 3 cur ∧ off + cap ≤ cur.size ∧ ∀ j x, xs[j]? = some x → cur[off + j]? = some (.int .i64 x)
theorem QS.below {w w' : World} {base : Nat} {v : Value} {xs : List Int} (h : QS w base v xs) (hb : Below w.heap.size w w') : QS w' base v xs := by
  obtain ⟨g, off, cap, cur, h1, h2, h3, h4, h5⟩ := h
  exact ⟨g, off, cap, cur, h1, h2, h3, Blk.of_heap (hb.block _ h4.lt) h4, h5⟩
theorem QS.alloc {w : World} {base : Nat} {v : Value} {xs : List Int} (h : QS w base v xs) (o : Obj) : QS (w.alloc o) base v xs := h.below ((Below.refl _ _).alloc (Nat.le_refl _) o)
theorem QS.turn {wx wy : World} {base b : Nat} {v : Value} {xs : List Int} (h : QS wx base v xs) (hb : ∃ es cl, wx.heap[b]? = some (.map es cl)) (hg : wx.grownBy wy (some b)) : QS wy base v xs := by
  obtain ⟨g, off, cap, cur, h1, h2, h3, h4, h5⟩ := h
  exact ⟨g, off, cap, cur, h1, h2, h3, h4.turn hb hg, h5⟩
theorem QS.form {w : World} {base : Nat} {v : Value} {xs : List Int} (h : QS w base v xs) : ∃ g off cap, v = .slice (some ⟨g, off, none⟩) xs.length cap ∧ xs.length ≤ cap ∧ (∀ j x, xs[j]? = some x → w.cell? ⟨g, off + j, none⟩ = some (.int .i64 x)) := by
  obtain ⟨g, off, cap, cur, h1, h2, h3, h4, h5, h6⟩ := h
  exact ⟨g, off, cap, h1, h2, fun j x hx => (h4.cell _).trans (h6 j x hx)⟩
theorem QS.lit (w : World) (x : Int) {base : Nat} (hb : base ≤ w.heap.size) : QS (w.alloc (.cells #[.int .i64 x] 3)) base (.slice (some ⟨w.heap.size, 0, none⟩) 1 1) [x] :=
  ⟨_, 0, 1, _, rfl, Nat.le_refl _, hb, Blk.new _ _ _, Nat.le_refl _, fun j y hj => by
    cases j with
    | zero => simp at hj; subst hj; rfl
    | succ j => simp at hj⟩
/-- What is behind the head. -/
theorem QS.tail {w : World} {base g off n cap : Nat} {x : Int} {xs : List Int} (h : QS w base (.slice (some ⟨g, off, none⟩) n cap) (x :: xs)) : (cap = 1 → QS w base (.slice (some ⟨g, off, none⟩) 0 0) xs) ∧ (cap ≠ 1 → QS w base (.slice (some ⟨g, off + 1, none⟩) xs.length (cap - 1)) xs) := by
  obtain ⟨g', off', cap', cur, h1, h2, h3, h4, h5, h6⟩ := h
  injection h1 with e1 e2 e3
  injection e1 with e1
  injection e1 with e4 e5
  subst e4 e5 e3
  simp only [List.length_cons] at h2
  refine ⟨fun hc => ?_, fun hc => ?_⟩
  · subst hc
    have : xs = [] := List.length_eq_zero_iff.1 (by omega)
    subst this
    exact ⟨g, off, 0, cur, rfl, Nat.le_refl _, h3, h4, by omega, fun j x hj => by simp at hj⟩
  · exact ⟨g, off + 1, cap - 1, cur, rfl, by omega, h3, h4, by omega, fun j y hj => by rw [show off + 1 + j = off + (j + 1) by omega]; exact h6 (j + 1) y (by simpa using hj)⟩
theorem info_intq : (Try.prog.info? 3).map (fun i => (i.zero, i.size, i.bytes)) = some (some (.int .i64 0), 1, 8) := by kernel_rfl
section
variable {ops : Array Oper} {rest : List Oper} {o : Oper} {a : Act} {Q : Exit → Act → World → Prop}
theorem wpList_push (w : World) (hg : o.guard = none) (s x : Operand) (hop : o.op = Op.call { callee := Callee.builtin Builtin.append, args := #[s, x], argTypes := #[24, 24] }) (base : Nat) (v : Value) (xs : List Int) (hs : a.eval s = v) (h : QS w base v xs) (hlen : xs.length ≤ 1000000000) (hbase : base ≤ w.heap.size)
    (nb : Nat) (y : Int) (hx : a.eval x = .slice (some ⟨nb, 0, none⟩) 1 1) (hn : w.cell? ⟨nb, 0, none⟩ = some (.int .i64 y))
    (hK : ∀ v' w' row, QS w' base v' (xs ++ [y]) → w.grownBy w' row → (∀ q, row = some q → base ≤ q ∧ ∃ cs, Blk w q 3 cs) → wpList Try.prog ops Q rest (a.put o.dst v') w') : wpList Try.prog ops Q (o :: rest) a w := by
  obtain ⟨i0, hi, hz0, hz1, hz2⟩ := info_parts info_intq
  obtain ⟨g, off, cap, cur, rfl, h2, h3, h4, h5, h6⟩ := h
  refine wpList_plain hg fun K' hK' => ?_
  have hnews : ∀ j u, [Value.int .i64 y][j]? = some u → w.cell? ((⟨nb, 0, none⟩ : Addr).add j) = some u := fun j u hu => by
    cases j with
    | zero => simp at hu; subst hu; exact hn
    | succ j => simp at hu
  by_cases hr : xs.length + 1 ≤ cap
  · have hrun := run_append_room_cells (P := Try.prog) (w := w) 24 o.type 3 i0 Try.underlying24 hi g off xs.length cap ⟨nb, 0, none⟩ 1 1 [.int .i64 y] (by rw [hz1]; rfl) hnews (by intro u hu; simp at hu; subst hu; rfl) hr
      (fun j hj => by
        have : j = 0 := by simpa using hj
        subst this
        rw [hz1, Nat.mul_one, Nat.add_zero, h4.cell, Array.getElem?_eq_getElem (by omega)]; rfl) (fun j hj => h4.frozen _)
    rw [hz1, Nat.mul_one] at hrun
    have hQ : QS (w.setCells g (off + xs.length) [.int .i64 y]) base (.slice (some ⟨g, off, none⟩) (xs.length + 1) cap) (xs ++ [y]) := by
      refine ⟨g, off, cap, cur.setIfInBounds (off + xs.length) (.int .i64 y), by simp, by simpa using hr, h3, h4.set_ _ _, by simpa using h5, fun j x hj => ?_⟩
      by_cases e : j = xs.length
      · subst e
        have : y = x := by simpa using hj
        subst this
        rw [Array.getElem?_setIfInBounds_self, if_pos (by omega)]
      · have hjl : j < xs.length := by
          have := (List.getElem?_eq_some_iff.1 hj).1
          simp at this
          omega
        rw [Array.getElem?_setIfInBounds_ne (by omega)]
        exact h6 j x (by rw [List.getElem?_append_left hjl] at hj; exact hj)
    have hG : w.grownBy (w.setCells g (off + xs.length) [.int .i64 y]) (some g) := ⟨rfl, rfl, rfl, by simp [World.setCells, World.setCell], fun k _ hk => Below.heap_setCell _ _ _ _ (fun e => hk (by rw [e]))⟩
    unfold Oper.wp
    simp [execOp, hop, resolve, invoke, builtin, hx, hs, hrun, Result.andThen]
    exact hK' _ _ (hK _ _ _ hQ hG fun q hq => by obtain rfl := Option.some.inj hq; exact ⟨h3, cur, h4⟩)
  · obtain ⟨v', w', hrun, hown, hgr⟩ := run_append_arg_grows (P := Try.prog) (w := w) 24 o.type 3 i0 _ 1 8 Try.underlying24 hi hz0 hz1 hz2 rfl (by decide) ⟨g, off, none⟩ xs.length cap (xs.map fun x => .int .i64 x) (by simp) (fun j u hu => by
        rw [List.getElem?_map] at hu
        obtain ⟨x, hx', rfl⟩ := Option.map_eq_some_iff.1 hu
        rw [Addr.add_lit, h4.cell]
        exact h6 j x hx') ⟨nb, 0, none⟩ 1 1 [.int .i64 y] rfl hnews (by omega) (by simp only [maxLen]; omega) (by omega)
    have hQ : QS w' base v' (xs ++ [y]) := by
      rcases hown.2 with ⟨rfl, h0⟩ | ⟨g', cap', cur', rfl, hb, hh, h7, h8, h9, h10⟩
      · omega
      · refine ⟨g', 0, cap', cur', by simp, by simpa using h7, by omega, hh, by omega, fun j x hj => ?_⟩
        have hjl : j < xs.length + 1 := by
          have := (List.getElem?_eq_some_iff.1 hj).1
          simpa using this
        have h11 : ((xs.map fun x => Value.int .i64 x) ++ [.int .i64 y])[j]? = some (.int .i64 x) := by
          rw [show ((xs.map fun x => Value.int .i64 x) ++ [Value.int .i64 y]) = (xs ++ [y]).map (fun x => Value.int .i64 x) by simp, List.getElem?_map, hj]
          rfl
        rw [← h10, List.getElem?_take] at h11
        split at h11
        · rw [Nat.zero_add]; simpa using h11
        · cases h11
    unfold Oper.wp
    simp [execOp, hop, resolve, invoke, builtin, hx, hs, hrun, Result.andThen]
    exact hK' _ _ (hK _ _ _ hQ hgr fun q hq => by cases hq)
end
/-! ### What stays while the queue grows -/
section
variable {w0 w wx wy : World} {c sb : Nat} {iv ov mv : Value} {D : List Fnd} {rw_ : Option Nat}
theorem At.row (h : At w0 w wx c sb iv ov mv D) (hw0 : w0.heap.size ≤ w.heap.size) (hg : wx.grownBy wy rw_) (hr : ∀ q, rw_ = some q → w.heap.size ≤ q ∧ ∃ cs, Blk wx q 3 cs) : At w0 w wy c sb iv ov mv D := by
  have hne : ∀ {g : Nat} {t : TypeId} {cs : Array Value}, Blk wx g t cs → t ≠ 3 → some g ≠ rw_ := fun hq ht e => by
    obtain ⟨_, cs, hb⟩ := hr _ e.symm
    exact Blk.ne_ hq hb ht rfl
  obtain ⟨h1, h2⟩ := h
  obtain ⟨v, r1, r2⟩ := h1.row
  refine ⟨⟨h1.bel.trans ⟨hg.os, hg.tape, hg.output, hg.size, fun q hq => hg.block q (by have := h1.bel.size; omega) (fun e => by have := (hr q e.symm).1; omega)⟩, h1.sB, Blk.of_heap (hg.block _ h1.sat.lt (hne h1.sat (by decide))) h1.sat, h1.cB, v, Blk.of_heap (hg.block _ r1.lt (hne r1 (by decide))) r1, ?_⟩, ⟨Nat.le_trans h2.size hg.size, fun q o hq hf => ?_⟩⟩
  · refine ⟨r2.1, ?_⟩
    rcases r2.2 with q | ⟨g', cap, cur, hv, hg', hh, rest⟩
    · exact .inl q
    · exact .inr ⟨g', cap, cur, hv, hg', Blk.of_heap (hg.block _ (Blk.lt (show Blk wx g' _ cur from hh)) (hne (show Blk wx g' 64 cur from hh) (by decide))) hh, rest⟩
  · have h3 := h2.block q o hq hf
    rw [hg.block q (heap_lt h3) (fun e => by have := (hr q e.symm).1; have := heap_lt hq; omega)]
    exact h3
theorem MapB.row {b n : Nat} {f : Int → Bool} (h : MapB wx b n f) (hg : wx.grownBy wy rw_) (hr : ∀ q, rw_ = some q → w.heap.size ≤ q ∧ ∃ cs, Blk wx q 3 cs) : MapB wy b n f :=
  h.kept hg fun e => by
    obtain ⟨_, cs, hb⟩ := hr _ e.symm
    obtain ⟨es, cl, hq⟩ := h.obj
    unfold Blk at hb
    rw [hq] at hb
    cases hb
theorem MapI.row {b n : Nat} {f : Int → Int} (h : MapI wx b n f) (hg : wx.grownBy wy rw_) (hr : ∀ q, rw_ = some q → w.heap.size ≤ q ∧ ∃ cs, Blk wx q 3 cs) : MapI wy b n f :=
  h.kept hg fun e => by
    obtain ⟨_, cs, hb⟩ := hr _ e.symm
    obtain ⟨es, cl, hq⟩ := h.obj
    unfold Blk at hb
    rw [hq] at hb
    cases hb
theorem Blk.row {g : Nat} {t : TypeId} {cs : Array Value} (h : Blk wx g t cs) (ht : t ≠ 3) (hg : wx.grownBy wy rw_) (hr : ∀ q, rw_ = some q → w.heap.size ≤ q ∧ ∃ cs, Blk wx q 3 cs) : Blk wy g t cs :=
  Blk.of_heap (hg.block _ h.lt (fun e => by
    obtain ⟨_, cs, hb⟩ := hr _ e.symm
    exact Blk.ne_ h hb ht rfl)) h
end
end Go.Proofs.Ytenlffhoinialaa
