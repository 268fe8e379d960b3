/- Texts of one's own that a claim's last text rests on: Mf20 Mf21 Un6 CkQ CkFndS CkFnd CkTreS. -/
import Derived.Test.YtkebjgebkneijaaGreatDoorMG11
import Derived.Test.YtkebjgebkneijaaGreatDoorMG9
import Derived.Test.YtkebjgebkneijaaGreatDoorMG10
import Derived.IntWalk
import Derived.Deep.CutBlock
set_option linter.unusedVariables false
set_option linter.unusedSimpArgs false
namespace Go.Proofs.YtkebjgebkneijaaGreatDoor
section
open Go.RowKit
set_option maxHeartbeats 1000000
def zeroWs : List Int := List.replicate 9549 0
theorem zeroWs_len : zeroWs.length = 9549 := List.length_replicate
def Mem.new (k : Nat) : Mem := ⟨zeroWs, List.replicate k [], List.replicate k []⟩
theorem Mem.new_ok (k : Nat) : (Mem.new k).ok 0 := ⟨zeroWs_len, fun t ht => by
 simp only [Mem.new, List.mem_replicate] at ht
 rw [ht.2]; simp, fun c => by
 simp only [Mem.new, List.getD_eq_getElem?_getD, List.getElem?_replicate]
 split <;> simp⟩
theorem mem_new {L : Nat -> Prop} {w w1 : World} {a k : Nat} (hb : Bd L w) (hk : 1 <= k /\ k <= 8) (h : ArAt (fun b => b < w.heap.size) w1 a zeroWs (List.replicate k [])) (hle : w.heap.size <= w1.heap.size) :
  MemAt L ((w1.alloc (.cells (Array.replicate k (.slice none 0 0)) 177)).alloc (.cells #[.pointer (some ⟨a, 0, none⟩), .slice (some ⟨w1.heap.size, 0, none⟩) k k] 105)) (w1.heap.size + 1) (Mem.new k) := by
 have b1 : Below w1.heap.size w1 ((w1.alloc (.cells (Array.replicate k (.slice none 0 0)) 177)).alloc (.cells #[.pointer (some ⟨a, 0, none⟩), .slice (some ⟨w1.heap.size, 0, none⟩) k k] 105)) := ((Below.refl _ _).alloc (Nat.le_refl _) _).alloc (by simp) _
 refine ⟨a, w1.heap.size, fun b => b = w1.heap.size ∨ b = w1.heap.size + 1, List.replicate k (.slice none 0 0), List.replicate k [], ⟨fun b hl => Nat.lt_of_lt_of_le (hb b hl) (Nat.le_trans hle b1.size), fun b hK hl => ?_, (h.belowNew b1).sub fun b hl => ?_, ⟨fun b hK => ?_, .inr rfl, .inl rfl, ?_, ?_, by simp, fun c hc => ?_, fun c hc b hq => ?_, fun c c' hc hc' hne b hq => ?_⟩, ⟨by simp [Mem.new], fun c hc => ?_⟩, by simp [Mem.new]⟩⟩
 ·have := hb b hl; omega
 ·rcases hl with hl | hl
  ·exact .inl (hb b hl)
  ·exact .inr ⟨by omega, by simp; omega⟩
 ·simp; omega
 ·have := Blk.newAt (w1.alloc (.cells (Array.replicate k (.slice none 0 0)) 177)) 105 #[.pointer (some ⟨a, 0, none⟩), .slice (some ⟨w1.heap.size, 0, none⟩) k k] (n := w1.heap.size + 1) (by simp)
  simpa using this
 ·rw [List.toArray_replicate]; exact (Blk.new w1 _ _).alloc _
 ·have hc : c < k := by simpa using hc
  simp only [List.getD_eq_getElem?_getD, List.getElem?_replicate, if_pos hc, Option.getD_some]
  exact ⟨rfl, .inl ⟨rfl, rfl⟩⟩
 ·have hc : c < k := by simpa using hc
  simp [List.getD_eq_getElem?_getD, hc, Value.ownBlock] at hq
 ·have hc : c < k := by simpa using hc
  simp [List.getD_eq_getElem?_getD, hc, Value.ownBlock] at hq
 ·have hc : c < k := by simpa [Mem.new] using hc
  simp [Mem.new, List.getD_eq_getElem?_getD, hc]
set_option maxRecDepth 1000000 in
theorem newStore_ok {L : Nat -> Prop} {w : World} (hb : Bd L w) {k : Nat} (hk : 1 <= k /\ k <= 8) :
  Calls Tryz.prog 40 #[.int .i64 k] w fun e w' => ∃ s, e = .returned (.pointer (some ⟨s, 0, none⟩)) /\ MemAt L w' s (Mem.new k) /\ Below w.heap.size w w' /\ w.heap.size <= s := by
 obtain ⟨i2, hi2, hz20, hz21, hz22⟩ := info_parts info_anys
 have hm2 := run_make_rowN (P := Tryz.prog) 103 177 i2 _ Tryz.underlying103 hi2 hz20 .i64 .i64 k k (Nat.le_refl _) (by rw [hz22]; omega) (by omega)
 simp only [hz21, Nat.mul_one, Value.cells, madeCells_one] at hm2
 have HN := lhi (new_to (L := fun b => b < w.heap.size) (fun b hb => hb) (n := 9549) (k := (k : Int)) (by decide) (by omega) rfl rfl)
 have HM := lhi fun (w1 : World) (a : Nat) h hle => mem_new (w1 := w1) (a := a) hb hk h hle
 clear hi2 hz20 hz21 hz22
 go_enter Tryz.func40, Tryz.ntmps40
 go_wp2_with (go_at_call 82; refine HN.out.mono ?_; rintro e w1 ⟨a, rfl, har, hkp⟩; have HA := lhi har; have HK := lhi hkp; clear har hkp)
 go_ret
 exact ⟨_, rfl, HM.out w1 a HA.out HK.out.size, (⟨HK.out.os, HK.out.tape, HK.out.output, HK.out.size, HK.out.block⟩ : Below w.heap.size w w1).trans (((Below.refl _ _).alloc HK.out.size _).alloc (by have := HK.out.size; simp; omega) _), by have := HK.out.size; omega⟩
end
section
open Go.RowKit
set_option maxHeartbeats 1000000
theorem stepC_create {w : World} {fb s : Nat} {M M1 : Mem} {m : Nat} (hok : M.ok m) (hm : m <= 700000000) {k : Nat} (hc : k < M.ts.length) (hf : M.fit) {cv : CallV} (hkind : cv.kind = 0 ∨ cv.kind = 1) (hs : cv.path.size <= 4611686018427387904)
  {ns : List ByteArray} {nm : ByteArray} (hp : parseF cv.path = .ok (ns ++ [nm])) (hn : ns.length <= 100) {it : Item} (hw : walkM k ns M rootItem = (.at_ it, M1)) (hd : it.dir = true) (hfr : freshC (M.bkt it.num (nbucket nm : Nat)) nm = 0)
  {n : Int} (hmade : rd M.ws (mdw k) = n) (hn0 : 0 <= n /\ n < 32) :
  StepC w fb s M (createM (M1.see k (wd it.num (nbucket nm : Nat))) k it nm cv.kind n) k cv 112 (.agg #[]) noRes := by
 intro K W _ hM hfb
 refine step_ret hM hfb (core := (k : Int)) (c := cv) (at_ := begunV) (r := noRes) fun W1 h1 => ?_
 refine (h1.callL (R := fun e _ => e = .returned (.tuple #[])) fun K' hK hB hM' => ?_).mono fun e w' h => h
 have hb := h1.blk (x := ⟨W.heap.size + 3, 184, stepCs s k cv noRes⟩) (by simp [stepBs])
 have hsp : K' (W.heap.size + 3) := hB ⟨W.heap.size + 3, 184, stepCs s k cv noRes⟩ (by simp [stepBs])
 refine run_create (kind := cv.kind) (hb.cell 2) hkind (P := fun w' => MemAt K' w' s _ /\ Kp K' W1 w') fun W2 hb2 => ?_
 have hb' := Blk.of_heap (hb2.block _ hb.lt) hb
 refine (create_ok (hM'.below hb2) hok hm (c := (k : Int)) ⟨by omega, by omega⟩ hf hsp (hb'.cell 0) (hb'.cell 1) (hb'.cell 2) hkind (hb'.cell 7) hs hp hn hw hd hfr hmade hn0).mono ?_
 rintro e w' ⟨rfl, h2, h3⟩
 exact ⟨rfl, h2, (Kp.below hM'.bd hb2).trans h3⟩
end
section
open Go.RowKit
set_option maxHeartbeats 1000000
set_option maxRecDepth 1000000 in
theorem run_remove {w : World} {sp : Nat} (s2 : w.cell? ⟨sp, 2, none⟩ = some (.int .i64 9)) {P : World -> Prop}
  (hC : ∀ W, Below w.heap.size w W -> Calls Tryz.prog 135 #[.pointer (some ⟨sp, 0, none⟩)] W fun e w' => e = .returned (.tuple #[]) /\ P w') :
  Calls Tryz.prog 96 #[.pointer (some ⟨sp, 0, none⟩), begunV] w fun e w' => e = .returned (.tuple #[]) /\ P w' := by
 have hsl := World.block_lt_of_cell? w _ s2
 have h1 := ta_looked
 have h2 := ta_holds
 have HC := lhi (hC ((w.alloc (.cells #[.int .i64 0, .string ⟨#[]⟩, .bool false, .slice none 0 0, .string ⟨#[]⟩, .string ⟨#[]⟩, .bool false] 221)).alloc (.cells #[.int .i64 0, .string ⟨#[]⟩, .bool false, .string ⟨#[]⟩, .int .i64 0] 225)) (((Below.refl _ _).alloc (Nat.le_refl _) _).alloc (by simp) _))
 clear hC
 go_enter Tryz.func96, Tryz.ntmps96
 go_wp2_with (go_at_call 135; refine HC.out.mono ?_; rintro e w' ⟨rfl, hp⟩; have HP := lhi hp; clear hp)
 go_end0
 exact ⟨rfl, HP.out⟩
set_option maxRecDepth 1000000 in
theorem run_remove_bad {w : World} {sp : Nat} {code : Int} (s2 : w.cell? ⟨sp, 2, none⟩ = some (.int .i64 9)) {P : World -> Prop}
  (hC : ∀ W, Below w.heap.size w W -> Calls Tryz.prog 135 #[.pointer (some ⟨sp, 0, none⟩)] W fun e w' => e = thrown code /\ P w') :
  Calls Tryz.prog 96 #[.pointer (some ⟨sp, 0, none⟩), begunV] w fun e w' => e = thrown code /\ P w' := by
 have hsl := World.block_lt_of_cell? w _ s2
 have h1 := ta_looked
 have h2 := ta_holds
 have HC := lhi (hC ((w.alloc (.cells #[.int .i64 0, .string ⟨#[]⟩, .bool false, .slice none 0 0, .string ⟨#[]⟩, .string ⟨#[]⟩, .bool false] 221)).alloc (.cells #[.int .i64 0, .string ⟨#[]⟩, .bool false, .string ⟨#[]⟩, .int .i64 0] 225)) (((Below.refl _ _).alloc (Nat.le_refl _) _).alloc (by simp) _))
 clear hC
 go_enter Tryz.func96, Tryz.ntmps96
 go_wp2_with (go_at_call 135; refine HC.out.mono ?_; rintro e w' ⟨rfl, hp⟩; have HP := lhi hp; clear hp)
 (try simp only [Exit.inBlock, Exit.then])
 exact ⟨rfl, rfl, HP.out⟩
def codeR (c : Int) : ResV := ⟨c, 0, 0, false, ⟨#[]⟩, none, 0, 0⟩
theorem stepC_remove {w : World} {fb s : Nat} {M M1 : Mem} {m : Nat} (hok : M.ok m) (hm : m <= 700000000) {k : Nat} (hc : k < M.ts.length) (hf : M.fit) {cv : CallV} (hkind : cv.kind = 9) (hs : cv.path.size <= 4611686018427387904)
  {ns : List ByteArray} {nm : ByteArray} (hp : parseF cv.path = .ok (ns ++ [nm])) (hn : ns.length <= 100) {it : Item} (hw : walkM k ns M rootItem = (.at_ it, M1)) (hd : it.dir = true) {xn : ByteArray} {xu : Int} (hfi : (M.bkt it.num (nbucket nm : Nat)).find? (Item.is nm) = some ⟨xn, xu, false⟩) :
  StepC w fb s M (removeM (M1.see k (wd it.num (nbucket nm : Nat))) k it nm xu) k cv 112 (.agg #[]) noRes := by
 intro K W _ hM hfb
 refine step_ret hM hfb (core := (k : Int)) (c := cv) (at_ := begunV) (r := noRes) fun W1 h1 => ?_
 refine (h1.callL (R := fun e _ => e = .returned (.tuple #[])) fun K' hK hB hM' => ?_).mono fun e w' h => h
 have hb := h1.blk (x := ⟨W.heap.size + 3, 184, stepCs s k cv noRes⟩) (by simp [stepBs])
 have hsp : K' (W.heap.size + 3) := hB ⟨W.heap.size + 3, 184, stepCs s k cv noRes⟩ (by simp [stepBs])
 have h2 : W1.cell? ⟨W.heap.size + 3, 2, none⟩ = some (.int .i64 9) := hkind ▸ hb.cell 2
 refine run_remove h2 (P := fun w' => MemAt K' w' s _ /\ Kp K' W1 w') fun W2 hb2 => ?_
 have hb' := Blk.of_heap (hb2.block _ hb.lt) hb
 refine (remove_ok (hM'.below hb2) hok hm (c := (k : Int)) ⟨by omega, by omega⟩ hf hsp (hb'.cell 0) (hb'.cell 1) (hkind ▸ hb'.cell 2) (hb'.cell 7) hs hp hn hw hd hfi).mono ?_
 rintro e w' ⟨rfl, h2, h3⟩
 exact ⟨rfl, h2, (Kp.below hM'.bd hb2).trans h3⟩
theorem stepC_remove_no {w : World} {fb s : Nat} {M M1 : Mem} {m : Nat} (hok : M.ok m) (hm : m <= 700000000) {k : Nat} (hc : k < M.ts.length) (hf : M.fit) {cv : CallV} (hkind : cv.kind = 9) (hs : cv.path.size <= 4611686018427387904)
  {ns : List ByteArray} {nm : ByteArray} (hp : parseF cv.path = .ok (ns ++ [nm])) (hn : ns.length <= 100) {it : Item} (hw : walkM k ns M rootItem = (.at_ it, M1)) (hd : it.dir = true) (hfi : (M.bkt it.num (nbucket nm : Nat)).find? (Item.is nm) = none) :
  StepC w fb s M (M1.see k (wd it.num (nbucket nm : Nat))) k cv 112 (.agg #[]) (codeR 1) := by
 intro K W _ hM hfb
 refine step_fault hM hfb (core := (k : Int)) (c := cv) (at_ := begunV) (r := noRes) (code := 1) fun W1 h1 => ?_
 refine (h1.callL (R := fun e _ => e = thrown 1) fun K' hK hB hM' => ?_).mono fun e w' h => h
 have hb := h1.blk (x := ⟨W.heap.size + 3, 184, stepCs s k cv noRes⟩) (by simp [stepBs])
 have hsp : K' (W.heap.size + 3) := hB ⟨W.heap.size + 3, 184, stepCs s k cv noRes⟩ (by simp [stepBs])
 have h2 : W1.cell? ⟨W.heap.size + 3, 2, none⟩ = some (.int .i64 9) := hkind ▸ hb.cell 2
 refine run_remove_bad h2 (P := fun w' => MemAt K' w' s _ /\ Kp K' W1 w') fun W2 hb2 => ?_
 have hb' := Blk.of_heap (hb2.block _ hb.lt) hb
 refine (remove_no (hM'.below hb2) hok hm (c := (k : Int)) ⟨by omega, by omega⟩ hf hsp (hb'.cell 0) (hb'.cell 1) (hkind ▸ hb'.cell 2) (hb'.cell 7) hs hp hn hw hd hfi).mono ?_
 rintro e w' ⟨rfl, h2, h3⟩
 exact ⟨rfl, h2, (Kp.below hM'.bd hb2).trans h3⟩
theorem stepC_full {w : World} {fb s : Nat} {M M1 : Mem} {m : Nat} (hok : M.ok m) (hm : m <= 700000000) {k : Nat} (hc : k < M.ts.length) (hf : M.fit) {cv : CallV} (hkind : cv.kind = 0 ∨ cv.kind = 1) (hs : cv.path.size <= 4611686018427387904)
  {ns : List ByteArray} {nm : ByteArray} (hp : parseF cv.path = .ok (ns ++ [nm])) (hn : ns.length <= 100) {it : Item} (hw : walkM k ns M rootItem = (.at_ it, M1)) (hd : it.dir = true) (hfr : freshC (M.bkt it.num (nbucket nm : Nat)) nm = 0)
  {n : Int} (hmade : rd M.ws (mdw k) = n) (hn0 : 32 <= n) :
  StepC w fb s M ((M1.see k (wd it.num (nbucket nm : Nat))).see k (mdw k)) k cv 112 (.agg #[]) (codeR 5) := by
 intro K W _ hM hfb
 refine step_fault hM hfb (core := (k : Int)) (c := cv) (at_ := begunV) (r := noRes) (code := 5) fun W1 h1 => ?_
 refine (h1.callL (R := fun e _ => e = thrown 5) fun K' hK hB hM' => ?_).mono fun e w' h => h
 have hb := h1.blk (x := ⟨W.heap.size + 3, 184, stepCs s k cv noRes⟩) (by simp [stepBs])
 have hsp : K' (W.heap.size + 3) := hB ⟨W.heap.size + 3, 184, stepCs s k cv noRes⟩ (by simp [stepBs])
 refine run_create_bad (kind := cv.kind) (hb.cell 2) hkind (P := fun w' => MemAt K' w' s _ /\ Kp K' W1 w') fun W2 hb2 => ?_
 have hb' := Blk.of_heap (hb2.block _ hb.lt) hb
 refine (create_full (hM'.below hb2) hok hm (c := (k : Int)) ⟨by omega, by omega⟩ hf hsp (hb'.cell 0) (hb'.cell 1) (hb'.cell 2) hkind (hb'.cell 7) hs hp hn hw hd hfr hmade hn0).mono ?_
 rintro e w' ⟨rfl, h2, h3⟩
 exact ⟨rfl, h2, (Kp.below hM'.bd hb2).trans h3⟩
end
section
open Go.RowKit
set_option maxHeartbeats 1000000
def QS (w : World) (base : Nat) (v : Value) (xs : List Int) : Prop :=
 ∃ g off cap cur, v = .slice (some ⟨g, off, none⟩) xs.length cap /\ xs.length <= cap /\ base <= g /\ Blk w g 3 cur /\ off + cap <= cur.size /\ ∀ j x, xs[j]? = some x -> cur[off + j]? = some (.int .i64 x)
theorem QS.below {w w' : World} {base : Nat} {v : Value} {xs : List Int} (h : QS w base v xs) (hb : Below w.heap.size w w') : QS w' base v xs := by
 obtain ⟨g, off, cap, cur, h1, h2, h3, h4, h5⟩ := h
 exact ⟨g, off, cap, cur, h1, h2, h3, Blk.of_heap (hb.block _ h4.lt) h4, h5⟩
theorem QS.alloc {w : World} {base : Nat} {v : Value} {xs : List Int} (h : QS w base v xs) (o : Obj) : QS (w.alloc o) base v xs := h.below ((Below.refl _ _).alloc (Nat.le_refl _) o)
theorem QS.turn {wx wy : World} {base b : Nat} {v : Value} {xs : List Int} (h : QS wx base v xs) (hb : ∃ es cl, wx.heap[b]? = some (.map es cl)) (hg : wx.grownBy wy (some b)) : QS wy base v xs := by
 obtain ⟨g, off, cap, cur, h1, h2, h3, h4, h5⟩ := h
 exact ⟨g, off, cap, cur, h1, h2, h3, h4.turn hb hg, h5⟩
theorem QS.form {w : World} {base : Nat} {v : Value} {xs : List Int} (h : QS w base v xs) : ∃ g off cap, v = .slice (some ⟨g, off, none⟩) xs.length cap /\ xs.length <= cap /\ (∀ j x, xs[j]? = some x -> w.cell? ⟨g, off + j, none⟩ = some (.int .i64 x)) := by
 obtain ⟨g, off, cap, cur, h1, h2, h3, h4, h5, h6⟩ := h
 exact ⟨g, off, cap, h1, h2, fun j x hx => (h4.cell _).trans (h6 j x hx)⟩
theorem QS.lit (w : World) (x : Int) {base : Nat} (hb : base <= w.heap.size) : QS (w.alloc (.cells #[.int .i64 x] 3)) base (.slice (some ⟨w.heap.size, 0, none⟩) 1 1) [x] :=
 ⟨_, 0, 1, _, rfl, Nat.le_refl _, hb, Blk.new _ _ _, Nat.le_refl _, fun j y hj => by
  cases j with
  | zero => simp at hj; subst hj; rfl
  | succ j => simp at hj⟩
theorem QS.tail {w : World} {base g off n cap : Nat} {x : Int} {xs : List Int} (h : QS w base (.slice (some ⟨g, off, none⟩) n cap) (x :: xs)) : (cap = 1 -> QS w base (.slice (some ⟨g, off, none⟩) 0 0) xs) /\ (cap ≠ 1 -> QS w base (.slice (some ⟨g, off + 1, none⟩) xs.length (cap - 1)) xs) := by
 obtain ⟨g', off', cap', cur, h1, h2, h3, h4, h5, h6⟩ := h
 injection h1 with e1 e2 e3
 injection e1 with e1
 injection e1 with e4 e5
 subst e4 e5 e3
 simp only [List.length_cons] at h2
 refine ⟨fun hc => ?_, fun hc => ?_⟩
 ·subst hc
  have : xs = [] := List.length_eq_zero_iff.1 (by omega)
  subst this
  exact ⟨g, off, 0, cur, rfl, Nat.le_refl _, h3, h4, by omega, fun j x hj => by simp at hj⟩
 ·exact ⟨g, off + 1, cap - 1, cur, rfl, by omega, h3, h4, by omega, fun j y hj => by rw [show off + 1 + j = off + (j + 1) by omega]; exact h6 (j + 1) y (by simpa using hj)⟩
theorem info_intq : (Tryz.prog.info? 3).map (fun i => (i.zero, i.size, i.bytes)) = some (some (.int .i64 0), 1, 8) := by kernel_rfl
section
variable {ops : Array Oper} {rest : List Oper} {o : Oper} {a : Act} {Q : Exit -> Act -> World -> Prop}
theorem wpList_push (w : World) (hg : o.guard = none) (s x : Operand) (hop : o.op = Op.call { callee := Callee.builtin Builtin.append, args := #[s, x], argTypes := #[30, 30] }) (base : Nat) (v : Value) (xs : List Int) (hs : a.eval s = v) (h : QS w base v xs) (hlen : xs.length <= 1000000000) (hbase : base <= w.heap.size)
  (nb : Nat) (y : Int) (hx : a.eval x = .slice (some ⟨nb, 0, none⟩) 1 1) (hn : w.cell? ⟨nb, 0, none⟩ = some (.int .i64 y))
  (hK : ∀ v' w' row, QS w' base v' (xs ++ [y]) -> w.grownBy w' row -> (∀ q, row = some q -> base <= q /\ ∃ cs, Blk w q 3 cs) -> wpList Tryz.prog ops Q rest (a.put o.dst v') w') : wpList Tryz.prog ops Q (o :: rest) a w := by
 obtain ⟨i0, hi, hz0, hz1, hz2⟩ := info_parts info_intq
 obtain ⟨g, off, cap, cur, rfl, h2, h3, h4, h5, h6⟩ := h
 refine wpList_plain hg fun K' hK' => ?_
 have hnews : ∀ j u, [Value.int .i64 y][j]? = some u -> w.cell? ((⟨nb, 0, none⟩ : Addr).add j) = some u := fun j u hu => by
  cases j with
  | zero => simp at hu; subst hu; exact hn
  | succ j => simp at hu
 by_cases hr : xs.length + 1 <= cap
 ·have hrun := run_append_room_cells (P := Tryz.prog) (w := w) 30 o.type 3 i0 Tryz.underlying30 hi g off xs.length cap ⟨nb, 0, none⟩ 1 1 [.int .i64 y] (by rw [hz1]; rfl) hnews (by intro u hu; simp at hu; subst hu; rfl) hr
   (fun j hj => by
    have : j = 0 := by simpa using hj
    subst this
    rw [hz1, Nat.mul_one, Nat.add_zero, h4.cell, Array.getElem?_eq_getElem (by omega)]; rfl) (fun j hj => h4.frozen _)
  rw [hz1, Nat.mul_one] at hrun
  have hQ : QS (w.setCells g (off + xs.length) [.int .i64 y]) base (.slice (some ⟨g, off, none⟩) (xs.length + 1) cap) (xs ++ [y]) := by
   refine ⟨g, off, cap, cur.setIfInBounds (off + xs.length) (.int .i64 y), by simp, by simpa using hr, h3, h4.set_ _ _, by simpa using h5, fun j x hj => ?_⟩
   by_cases e : j = xs.length
   ·subst e
    have : y = x := by simpa using hj
    subst this
    rw [Array.getElem?_setIfInBounds_self, if_pos (by omega)]
   ·have hjl : j < xs.length := by
     have := (List.getElem?_eq_some_iff.1 hj).1
     simp at this
     omega
    rw [Array.getElem?_setIfInBounds_ne (by omega)]
    exact h6 j x (by rw [List.getElem?_append_left hjl] at hj; exact hj)
  have hG : w.grownBy (w.setCells g (off + xs.length) [.int .i64 y]) (some g) := ⟨rfl, rfl, rfl, by simp [World.setCells, World.setCell], fun k _ hk => Below.heap_setCell _ _ _ _ (fun e => hk (by rw [e]))⟩
  unfold Oper.wp
  simp [execOp, hop, resolve, invoke, builtin, hx, hs, hrun, Result.andThen]
  exact hK' _ _ (hK _ _ _ hQ hG fun q hq => by obtain rfl := Option.some.inj hq; exact ⟨h3, cur, h4⟩)
 ·obtain ⟨v', w', hrun, hown, hgr⟩ := run_append_arg_grows (P := Tryz.prog) (w := w) 30 o.type 3 i0 _ 1 8 Tryz.underlying30 hi hz0 hz1 hz2 rfl (by decide) ⟨g, off, none⟩ xs.length cap (xs.map fun x => .int .i64 x) (by simp) (fun j u hu => by
    rw [List.getElem?_map] at hu
    obtain ⟨x, hx', rfl⟩ := Option.map_eq_some_iff.1 hu
    rw [Addr.add_lit, h4.cell]
    exact h6 j x hx') ⟨nb, 0, none⟩ 1 1 [.int .i64 y] rfl hnews (by omega) (by simp only [maxLen]; omega) (by omega)
  have hQ : QS w' base v' (xs ++ [y]) := by
   rcases hown.2 with ⟨rfl, h0⟩ | ⟨g', cap', cur', rfl, hb, hh, h7, h8, h9, h10⟩
   ·omega
   ·refine ⟨g', 0, cap', cur', by simp, by simpa using h7, by omega, hh, by omega, fun j x hj => ?_⟩
    have hjl : j < xs.length + 1 := by
     have := (List.getElem?_eq_some_iff.1 hj).1
     simpa using this
    have h11 : ((xs.map fun x => Value.int .i64 x) ++ [.int .i64 y])[j]? = some (.int .i64 x) := by
     rw [show ((xs.map fun x => Value.int .i64 x) ++ [Value.int .i64 y]) = (xs ++ [y]).map (fun x => Value.int .i64 x) by simp, List.getElem?_map, hj]
     rfl
    rw [<- h10, List.getElem?_take] at h11
    split at h11
    ·rw [Nat.zero_add]; simpa using h11
    ·cases h11
  unfold Oper.wp
  simp [execOp, hop, resolve, invoke, builtin, hx, hs, hrun, Result.andThen]
  exact hK' _ _ (hK _ _ _ hQ hgr fun q hq => by cases hq)
end
section
variable {w0 w wx wy : World} {c sb : Nat} {iv ov mv : Value} {D : List Fnd} {rw_ : Option Nat}
theorem At.row (h : At w0 w wx c sb iv ov mv D) (hw0 : w0.heap.size <= w.heap.size) (hg : wx.grownBy wy rw_) (hr : ∀ q, rw_ = some q -> w.heap.size <= q /\ ∃ cs, Blk wx q 3 cs) : At w0 w wy c sb iv ov mv D := by
 have hne : ∀ {g : Nat} {t : TypeId} {cs : Array Value}, Blk wx g t cs -> t ≠ 3 -> some g ≠ rw_ := fun hq ht e => by
  obtain ⟨_, cs, hb⟩ := hr _ e.symm
  exact Blk.ne_ hq hb ht rfl
 obtain ⟨h1, h2⟩ := h
 obtain ⟨v, r1, r2⟩ := h1.row
 refine ⟨⟨h1.bel.trans ⟨hg.os, hg.tape, hg.output, hg.size, fun q hq => hg.block q (by have := h1.bel.size; omega) (fun e => by have := (hr q e.symm).1; omega)⟩, h1.sB, Blk.of_heap (hg.block _ h1.sat.lt (hne h1.sat (by decide))) h1.sat, h1.cB, v, Blk.of_heap (hg.block _ r1.lt (hne r1 (by decide))) r1, ?_⟩, ⟨Nat.le_trans h2.size hg.size, fun q o hq hf => ?_⟩⟩
 ·refine ⟨r2.1, ?_⟩
  rcases r2.2 with q | ⟨g', cap, cur, hv, hg', hh, rest⟩
  ·exact .inl q
  ·exact .inr ⟨g', cap, cur, hv, hg', Blk.of_heap (hg.block _ (Blk.lt (show Blk wx g' _ cur from hh)) (hne (show Blk wx g' 83 cur from hh) (by decide))) hh, rest⟩
 ·have h3 := h2.block q o hq hf
  rw [hg.block q (heap_lt h3) (fun e => by have := (hr q e.symm).1; have := heap_lt hq; omega)]
  exact h3
theorem MapB.row {b n : Nat} {f : Int -> Bool} (h : MapB wx b n f) (hg : wx.grownBy wy rw_) (hr : ∀ q, rw_ = some q -> w.heap.size <= q /\ ∃ cs, Blk wx q 3 cs) : MapB wy b n f :=
 h.kept hg fun e => by
  obtain ⟨_, cs, hb⟩ := hr _ e.symm
  obtain ⟨es, cl, hq⟩ := h.obj
  unfold Blk at hb
  rw [hq] at hb
  cases hb
theorem MapI.row {b n : Nat} {f : Int -> Int} (h : MapI wx b n f) (hg : wx.grownBy wy rw_) (hr : ∀ q, rw_ = some q -> w.heap.size <= q /\ ∃ cs, Blk wx q 3 cs) : MapI wy b n f :=
 h.kept hg fun e => by
  obtain ⟨_, cs, hb⟩ := hr _ e.symm
  obtain ⟨es, cl, hq⟩ := h.obj
  unfold Blk at hb
  rw [hq] at hb
  cases hb
theorem Blk.row {g : Nat} {t : TypeId} {cs : Array Value} (h : Blk wx g t cs) (ht : t ≠ 3) (hg : wx.grownBy wy rw_) (hr : ∀ q, rw_ = some q -> w.heap.size <= q /\ ∃ cs, Blk wx q 3 cs) : Blk wy g t cs :=
 Blk.of_heap (hg.block _ h.lt (fun e => by
  obtain ⟨_, cs, hb⟩ := hr _ e.symm
  exact Blk.ne_ h hb ht rfl)) h
end
end
section
open Go.RowKit
set_option maxHeartbeats 1000000
def entsOf (S : St) (i : Nat) : List Int := (List.range (S.ne i)).map (S.enu i)
def manyTo (S : St) (i : Nat) : List Int := (List.range i).flatMap fun i => if S.dir i then entsOf S i else []
def manyF (S : St) (x : Int) : Nat := (manyTo S S.inodes.length).count x
def add1 (F : List Int) (x : Int) : List Int := if F.contains x then F else F ++ [x]
def addAll (F : List Int) (es : List Int) : List Int := es.foldl add1 F
def kids (S : St) (x : Int) : List Int := match firstIx S x with
 | some i => if S.dir i then entsOf S i else []
 | none => []
def bfs (S : St) : Nat -> List Int -> Nat -> List Int
 | 0, F, _ => F
 | f + 1, F, p => match F[p]? with
  | some x => bfs S f (addAll F (kids S x)) (p + 1)
  | none => F
def univ (S : St) : List Int := (List.range S.inodes.length).flatMap (entsOf S)
def foundF (S : St) : List Int := bfs S ((univ S).length + 2) [1] 0
def foundB (S : St) (x : Int) : Bool := (foundF S).contains x
def out (U F : List Int) : Nat := (U.filter fun x => !F.contains x).length
theorem entsOf_len (S : St) (i : Nat) : (entsOf S i).length = S.ne i := by simp [entsOf]
theorem univ_len (S : St) (hs : S.small) : (univ S).length <= 1000000 := by
 unfold univ
 have := flat_len (f := entsOf S) (c := 1000) (fun i => by rw [entsOf_len]; exact hs.en i) S.inodes.length
 have := hs.ni
 omega
theorem mem_univ {S : St} {i k : Nat} (hi : i < S.inodes.length) (hk : k < S.ne i) : S.enu i k ∈ univ S := by
 unfold univ entsOf
 rw [List.mem_flatMap]
 exact ⟨i, by simpa using hi, by rw [List.mem_map]; exact ⟨k, by simpa using hk, rfl⟩⟩
theorem filter_lt {A : Type} {p q : A -> Bool} (h : ∀ x, q x = true -> p x = true) {y : A} : ∀ {l : List A}, y ∈ l -> p y = true -> q y = false -> (l.filter q).length + 1 <= (l.filter p).length
 | [], hy, _, _ => by simp at hy
 | a :: l, hy, hp, hq => by
  have hle : ∀ l : List A, (l.filter q).length <= (l.filter p).length := by
   intro l
   induction l with
   | nil => simp
   | cons a l ih =>
    rw [List.filter_cons, List.filter_cons]
    by_cases h1 : q a = true
    ·rw [if_pos h1, if_pos (h a h1)]; simp; exact ih
    ·rw [if_neg h1]
     split
     ·simp; omega
     ·exact ih
  rw [List.filter_cons, List.filter_cons]
  rcases List.mem_cons.1 hy with rfl | hy
  ·rw [if_pos hp, if_neg (by simp [hq])]
   have := hle l
   simp; omega
  ·have ih := filter_lt h hy hp hq
   by_cases h1 : q a = true
   ·rw [if_pos h1, if_pos (h a h1)]; simp; omega
   ·rw [if_neg h1]
    split
    ·simp; omega
    ·exact ih
theorem add1_out {U F : List Int} {x : Int} (hx : x ∈ U) (hF : F.contains x = false) : (F ++ [x]).length + out U (F ++ [x]) <= F.length + out U F := by
 have h := filter_lt (p := fun y => !F.contains y) (q := fun y => !(F ++ [x]).contains y) (fun y hy => by
  have h2 : y ∉ F ++ [x] := by simpa using hy
  have h3 : y ∉ F := fun h => h2 (List.mem_append_left _ h)
  simpa using h3) hx (by rw [hF]; rfl) (by simp)
 unfold out
 simp only [List.length_append, List.length_singleton]
 omega
theorem addAll_snoc (F : List Int) (es : List Int) (x : Int) : addAll F (es ++ [x]) = add1 (addAll F es) x := by
 unfold addAll
 rw [List.foldl_append]; rfl
theorem entsTo_snoc (S : St) (i k : Nat) : (List.range (k + 1)).map (S.enu i) = (List.range k).map (S.enu i) ++ [S.enu i k] := by
 rw [List.range_succ, List.map_append]; rfl
theorem manyTo_succ (S : St) (i : Nat) : manyTo S (i + 1) = manyTo S i ++ if S.dir i then entsOf S i else [] := flat_succ _ i
theorem manyTo_len (S : St) (hs : S.small) (i : Nat) (hi : i <= 1000) : (manyTo S i).length <= 1000000 := by
 unfold manyTo
 have := flat_len (f := fun i => if S.dir i then entsOf S i else []) (c := 1000) (fun i => by
  have := hs.en i
  have h2 := entsOf_len S i
  show (if S.dir i then entsOf S i else []).length <= 1000
  split
  ·omega
  ·simp) i
 have h2 : i * 1000 <= 1000 * 1000 := Nat.mul_le_mul_right _ hi
 omega
theorem count_snoc (L : List Int) (x y : Int) : ((L ++ [x]).count y : Int) = if y = x then (L.count x : Int) + 1 else (L.count y : Int) := by
 rw [List.count_append, List.count_singleton]
 by_cases e : y = x
 ·subst e; simp
 ·rw [if_neg e]
  have : (x == y) = false := by simpa using fun h : x = y => e h.symm
  simp [this]
theorem contains_snoc (F : List Int) (x y : Int) : (F ++ [x]).contains y = if y = x then true else F.contains y := by
 by_cases e : y = x
 ·subst e; simp
 ·rw [if_neg e]; simp [e]
end
section
open Go.RowKit
set_option maxHeartbeats 2000000
attribute [local go_sem ↓] Go.wp_at_zero Go.wp_at_succ
set_option maxRecDepth 1000000 in
theorem found_calls {w0 w : World} {c sb : Nat} {iv ov mv : Value} {ev : Nat -> Value} {S : St} {D : List Fnd} (h : Ck w0 w c sb iv ov mv D) (hS : StM w0 iv ov mv ev S) (hs : S.small) :
  Calls Tryz.prog 76 #[.pointer (some ⟨c, 0, none⟩)] w fun e w' => ∃ fb mb nf nm, e = .returned (.tuple #[.map (some fb), .map (some mb)]) /\ At w0 w w' c sb iv ov mv D /\ MapB w' fb nf (foundB S) /\ MapI w' mb nm (fun x => (manyF S x : Nat)) := by
 obtain ⟨A, cap, rfl⟩ := hS.ino.form
 have hn := hs.ni
 have HN0 := lhi hs.ni
 have hw0 : w0.heap.size <= w.heap.size := h.bel.size
 have HC := lhi h
 have HS := lhi hS
 have HSm := lhi hs
 clear h hS hs
 obtain ⟨n, hnn⟩ : ∃ n, S.inodes.length = n := ⟨_, rfl⟩
 rw [hnn] at hn HC HS
 have HI := lhi (show RowAt w0 (.slice A n cap) n 4 (inoC S ev) from hnn ▸ HS.out.ino)
 have HNN := lhi hnn
 clear hnn
 have hmm := @run_makeMap Tryz.prog
 go_enter Tryz.func76, Tryz.ntmps76
 go_upto_region 1 with (fail)
 go_cut [4, 5] (fun m1 m2 wx => ∃ fb mb, m1 = .map (some fb) /\ m2 = .map (some mb) /\ w.heap.size <= fb /\ w.heap.size <= mb /\ fb ≠ mb /\ At w0 w wx c sb (.slice A n cap) ov mv D /\ MapB wx fb 1 (fun x => [1].contains x) /\ MapI wx mb 0 (fun _ => 0))
 case first =>
  have HM1 := lhi (MapB.made w)
  have HA1 := lhi ((At.start HC.out).alloc (.map #[] 0))
  go_wp2_with (with_reducible refine wpList_setB _ rfl (.tmp 14) (.const (.int .i64 1)) (.const (.bool true)) (.inr rfl) w.heap.size 0 (fun _ => false) rfl HM1.out (by decide) 1 (by decide) rfl true rfl ?_; intro w1 hM1 hG1)
  have hob := HM1.out.obj
  have HA2 := lhi (((HA1.out.turn hob (Nat.le_refl _) hw0 hG1).alloc (.map #[] 0)))
  have HM2 := lhi (hM1.alloc (.map #[] 0))
  have HM3 := lhi (MapI.made w1)
  have hlt : w.heap.size < w1.heap.size := by have := hG1.size; simp at this; omega
  go_meet
  case rel => exact ⟨_, _, rfl, rfl, Nat.le_refl _, by omega, by omega, HA2.out, HM2.out.congr (fun i => by by_cases e : i = 1 <;> simp [e]), HM3.out⟩
 case rest =>
  obtain ⟨fb, mb, rfl, rfl, hfb, hmb, hfm, hat, hmB, hmI⟩ := hcut
  have HAT := lhi hat
  have HMB := lhi hmB
  have HMI := lhi hmI
  have c0 := hat.1.c0
  have s0 := hat.1.s0
  clear hat hmB hmI HC
  go_wp2_with (fail)
  clear c0 s0
  go_loopw [25] (fun i wr => ∃ k : Nat, i = .int .i64 k /\ k <= n /\ At w0 w wr c sb (.slice A n cap) ov mv D /\ MapB wr fb 1 (fun x => [1].contains x) /\ MapI wr mb (manyTo S k).length (fun x => ((manyTo S k).count x : Nat))) (fun i _ => n - (intOf i).toNat)
  case atStart => exact ⟨0, rfl, by omega, HAT.out, HMB.out, HMI.out⟩
  case round =>
   obtain ⟨k, rfl, hk, hat, hmB, hmI⟩ := hrel
   have HAT := lhi hat
   have HMB := lhi hmB
   have HMI := lhi hmI
   clear hat hmB hmI
   by_cases hp : k < n
   ·
    obtain ⟨-, hcap, g, off, rfl, hcell⟩ := (HI.out.keep HAT.out.1.bel).at_ hp
    have q0 : wr.cell? ⟨g, off + k * 4, none⟩ = some (.int .i64 (S.num k)) := hcell 0 (by omega)
    have q1 : wr.cell? ⟨g, off + k * 4 + 1, none⟩ = some (.bool (S.dir k)) := hcell 1 (by omega)
    have q2 : wr.cell? ⟨g, off + k * 4 + 2, none⟩ = some (ev k) := hcell 2 (by omega)
    have q3 : wr.cell? ⟨g, off + k * 4 + 3, none⟩ = some (.string (S.dat k)) := hcell 3 (by omega)
    have hp1 : (k : Int) < n := by omega
    clear hcell
    have hent := HS.out.ent k (by rw [HNN.out]; exact hp)
    obtain ⟨EA, ecap, hev⟩ := hent.form
    rw [hev] at q2 hent
    have hne := HSm.out.en k
    have HENT := lhi hent
    have HMS := lhi (manyTo_succ S k)
    have HML := lhi (manyTo_len S HSm.out k (by omega))
    have HSN := lhi (entsTo_snoc S k)
    have HEU := lhi (fun j => HSm.out.enu k j)
    have HEO := lhi (show entsOf S k = (List.range (S.ne k)).map (S.enu k) from rfl)
    clear hent hev
    generalize hnee : S.ne k = ne at *
    have HNE := lhi hnee
    clear hnee
    generalize S.num k = x at *
    generalize S.dir k = dv at *
    generalize S.dat k = dt at *
    have HX := lhi (Blk.new wr 72 #[.int .i64 x, .bool dv, .slice EA ne ecap, .string dt])
    have HAX := lhi (HAT.out.alloc (Obj.cells #[Value.int IntKind.i64 x, Value.bool dv, Value.slice EA ne ecap, Value.string dt] 72))
    have HBX := lhi (HMB.out.alloc (Obj.cells #[Value.int IntKind.i64 x, Value.bool dv, Value.slice EA ne ecap, Value.string dt] 72))
    have HIX := lhi (HMI.out.alloc (Obj.cells #[Value.int IntKind.i64 x, Value.bool dv, Value.slice EA ne ecap, Value.string dt] 72))
    have hxw : w.heap.size <= wr.heap.size := HAT.out.2.size
    clear HAT HMB HMI
    go_wp2_with (fail)
    clear q0 q1 q2 q3
    obtain ⟨wy, hwy⟩ : ∃ wy, wy = wr.alloc (Obj.cells #[Value.int IntKind.i64 x, Value.bool dv, Value.slice EA ne ecap, Value.string dt] 72) := ⟨_, rfl⟩
    rw [<- hwy] at HX HAX HBX HIX ⊢
    clear hwy
    generalize wr.heap.size = xg at *
    go_loopw [32] (fun i wr => ∃ j : Nat, i = .int .i64 j /\ j <= ne /\ At w0 w wr c sb (.slice (some ⟨g, off, none⟩) n cap) ov mv D /\ MapB wr fb 1 (fun x => [1].contains x) /\ MapI wr mb (manyTo S k ++ if dv then (List.range j).map (S.enu k) else []).length (fun x => ((manyTo S k ++ if dv then (List.range j).map (S.enu k) else []).count x : Nat)) /\ Blk wr xg 72 #[.int .i64 x, .bool dv, .slice EA ne ecap, .string dt]) (fun i _ => ne - (intOf i).toNat)
    case atStart => exact ⟨0, rfl, by omega, HAX.out, HBX.out, by simpa using HIX.out, HX.out⟩
    case round =>
     obtain ⟨j, rfl, hj, hat, hmB, hmI, hbx⟩ := hrel
     have HAT := lhi hat
     have HMB := lhi hmB
     have HBL := lhi hbx
     by_cases hpj : j < ne
     ·have HMI := lhi hmI
      clear hat hmB hmI hbx HAX HBX HIX HX
      obtain ⟨-, -, eg, eoff, rfl, hcell⟩ := (HENT.out.keep HAT.out.1.bel).at_ hpj
      have q0 : wr.cell? ⟨eg, eoff + j * 2, none⟩ = some (.string (S.enm k j)) := hcell 0 (by omega)
      have q1 : wr.cell? ⟨eg, eoff + j * 2 + 1, none⟩ = some (.int .i64 (S.enu k j)) := hcell 1 (by omega)
      have hp2 : (j : Int) < ne := by omega
      have hnu := HEU.out j
      have HSJ := lhi (HSN.out j)
      clear hcell
      generalize S.enm k j = nm at *
      generalize S.enu k j = nu at *
      have HBL2 := lhi (HBL.out.alloc (Obj.cells #[.string nm, .int .i64 nu] 141))
      have HAT2 := lhi (HAT.out.alloc (Obj.cells #[.string nm, .int .i64 nu] 141))
      have HMB2 := lhi (HMB.out.alloc (Obj.cells #[.string nm, .int .i64 nu] 141))
      have HMI2 := lhi (HMI.out.alloc (Obj.cells #[.string nm, .int .i64 nu] 141))
      have x1 : (wr.alloc (Obj.cells #[.string nm, .int .i64 nu] 141)).cell? ⟨xg, 1, none⟩ = some (.bool dv) := HBL2.out.cell 1
      clear HBL HAT HMB HMI
      rcases bool_tf dv with rfl | rfl
      ·have HL := lhi (show (manyTo S k ++ (List.range (j + 1)).map (S.enu k)) = (manyTo S k ++ (List.range j).map (S.enu k)) ++ [nu] by rw [HSJ.out, List.append_assoc])
       have HMI2 := lhi (show MapI (wr.alloc (Obj.cells #[.string nm, .int .i64 nu] 141)) mb (manyTo S k ++ (List.range j).map (S.enu k)).length (fun x => ((manyTo S k ++ (List.range j).map (S.enu k)).count x : Nat)) from HMI2.out)
       have HLL := lhi (show (manyTo S k ++ (List.range j).map (S.enu k)).length <= 1001000 by rw [List.length_append, List.length_map, List.length_range]; have := HML.out; omega)
       generalize manyTo S k ++ (List.range j).map (S.enu k) = L at *
       have hlook := HMI2.out.look hnu
       have hcl : (L.count nu : Int) <= 1001000 := by have := List.count_le_length (a := nu) (l := L); have := HLL.out; omega
       have hc0 : (0 : Int) <= (L.count nu : Int) := by omega
       have HK := lhi (show ∀ y : Int, y = (L.count nu : Int) + 1 -> ∀ z, (if z = nu then y else (L.count z : Int)) = ((L ++ [nu]).count z : Nat) from fun y hy z => by rw [count_snoc, hy])
       generalize hcn : (L.count nu : Int) = cn at *
       have HCN := lhi hcn
       clear hcn
       go_wp2_with (at_mapUpdate; refine wpList_setI _ rfl (.tmp 38) (.tmp 40) (.tmp 42) rfl mb L.length _ rfl HMI2.out (by have := HLL.out; omega) nu hnu rfl (cn + 1) ⟨by omega, by omega⟩ rfl ?_; intro w5 hM5 hG5)
       have hob := HMI2.out.obj
       have HR1 := lhi (HAT2.out.turn hob hmb hw0 hG5)
       have HR2 := lhi (HMB2.out.kept hG5 (fun e => hfm (Option.some.inj e)))
       have HR3 := lhi (show MapI w5 mb (L ++ [nu]).length (fun x => ((L ++ [nu]).count x : Nat)) from by
        have := hM5.congr (fun z => HK.out (cn + 1) rfl z)
        simpa using this)
       have HR4 := lhi (HBL2.out.turn hob hG5)
       clear hM5 hG5 hob hlook
       go_wp2_with (fail)
       go_roundw
       case rel => exact ⟨j + 1, by go_num, by omega, HR1.out, HR2.out, by rw [HL.out]; exact HR3.out, HR4.out⟩
       case measure =>
        simp only [intOf]
        omega
      ·go_wp2_with (fail)
       go_roundw
       case rel => exact ⟨j + 1, by go_num, by omega, HAT2.out, HMB2.out, HMI2.out, HBL2.out⟩
       case measure =>
        simp only [intOf]
        omega
     ·have e : j = ne := by omega
      subst e
      have HMI := lhi (show MapI wr mb (manyTo S (k + 1)).length (fun x => ((manyTo S (k + 1)).count x : Nat)) by rw [HMS.out, HEO.out]; exact hmI)
      clear hat hmB hmI hbx HAX HBX HIX HX
      go_wp2_with (fail)
      go_roundw
      case rel => exact ⟨k + 1, by go_num, by omega, HAT.out, HMB.out, HMI.out⟩
      case measure =>
       simp only [intOf]
       omega
   ·have e : k = n := by omega
    subst e
    have HM := lhi (HMI.out.congr (fun x => (show (((manyTo S k).count x : Nat) : Int) = (manyF S x : Nat) by unfold manyF; rw [HNN.out])))
    clear HMI
    generalize (manyTo S k).length = nm at *
    have HQ := lhi (QS.lit wr 1 HAT.out.2.size)
    have HAQ := lhi (HAT.out.alloc (Obj.cells #[.int .i64 1] 3))
    have HBQ := lhi (HMB.out.alloc (Obj.cells #[.int .i64 1] 3))
    have HIQ := lhi (HM.out.alloc (Obj.cells #[.int .i64 1] 3))
    clear HAT HMB HM
    go_wp2_with (fail)
    obtain ⟨wy, hwy⟩ : ∃ wy, wy = wr.alloc (Obj.cells #[.int .i64 1] 3) := ⟨_, rfl⟩
    rw [<- hwy] at HQ HAQ HBQ HIQ ⊢
    clear hwy
    generalize wr.heap.size = tb at *
    go_loopg [10] ((univ S).length + 2) (fun f todo wr => ∃ (F : List Int) (p : Nat), f + p = (univ S).length + 2 /\ F.length + out (univ S) F <= (univ S).length + 1 /\ p <= F.length /\ foundF S = bfs S f F p /\ At w0 w wr c sb (.slice A k cap) ov mv D /\ QS wr w.heap.size todo (F.drop p) /\ MapB wr fb F.length (fun x => F.contains x) /\ MapI wr mb nm (fun x => (manyF S x : Nat)))
    case atStart => exact ⟨[1], 0, by omega, (by have := List.length_filter_le (fun x => !([1] : List Int).contains x) (univ S); unfold out; simp only [List.length_singleton]; omega), by simp, rfl, HAQ.out, HQ.out, HBQ.out, HIQ.out⟩
    case round =>
     obtain ⟨F, p, hf, hF, hpF, hbf, hat, hq, hmB, hmI⟩ := hrel
     have HAT := lhi hat
     have HMB := lhi hmB
     have HMI := lhi hmI
     have HQ := lhi hq
     have HBF := lhi hbf
     have HFB := lhi hF
     have HFP := lhi hf
     obtain ⟨tg, toff, tcap, rfl, htc, htcell⟩ := hq.form
     clear hat hmB hmI hq hbf hF hf HAQ HBQ HIQ
     by_cases hp2 : p < F.length
     ·obtain ⟨x, rest, hd⟩ : ∃ x rest, F.drop p = x :: rest := ⟨F[p], F.drop (p + 1), List.drop_eq_getElem_cons hp2⟩
      have hx := htcell 0 x (by rw [hd]; rfl)
      have HFX := lhi (show F[p]? = some x by have := congrArg (fun l => l[0]?) hd; simpa using this)
      have HRS := lhi (show rest = F.drop (p + 1) by have := congrArg List.tail hd; simpa using this.symm)
      rw [Nat.add_zero] at hx
      clear htcell
      have htn : 0 < (F.drop p).length := by rw [hd]; simp
      have htn2 : (0 : Int) < ((F.drop p).length : Int) := by omega
      have HTL := lhi (show (F.drop p).length = rest.length + 1 by rw [hd]; rfl)
      have HDD := lhi hd
      clear hd
      generalize (F.drop p).length = tl at *
      obtain ⟨wo, rfl⟩ : ∃ wo : World, wo = wr := ⟨_, rfl⟩
      go_upto_block 5 with (fail)
      go_cut [10] (fun todo wx => ∃ F' : List Int, F' = addAll F (kids S x) /\ F'.length + out (univ S) F' <= (univ S).length + 1 /\ p < F'.length /\ At w0 w wx c sb (.slice A k cap) ov mv D /\ QS wx w.heap.size todo (F'.drop p) /\ MapB wx fb F'.length (fun x => F'.contains x) /\ MapI wx mb nm (fun x => (manyF S x : Nat)))
      case first =>
       have hnr := HNN.out
       have HII := lhi (show RowAt wo (.slice A k cap) S.inodes.length 4 (inoC S ev) by rw [hnr]; exact HI.out.keep HAT.out.1.bel)
       clear hnr
       rcases hfi : firstIx S x with _ | i
       ·have HF := lhi (first_none HAT.out.1.c0 HAT.out.1.s0 HII.out HN0.out hfi)
        have HKI := lhi (show addAll F (kids S x) = F by unfold kids; rw [hfi]; rfl)
        clear hfi
        go_wp2_with (go_at_call 73; refine HF.out.mono ?_; rintro e w' ⟨rfl, hw⟩; obtain rfl := hw.symm)
        go_meet
        case rel => exact ⟨F, HKI.out.symm, HFB.out, hp2, HAT.out, HQ.out, HMB.out, HMI.out⟩
       ·obtain ⟨g, off, rfl, hil, _, hcall⟩ := first_some HAT.out.1.c0 HAT.out.1.s0 HII.out HN0.out hfi
        have HF := lhi hcall
        obtain ⟨-, -, g', off', e, hcell⟩ := HII.out.at_ hil
        injection e with e
        injection e with e1 e2
        subst e1 e2
        have y1 : wo.cell? ⟨g, off + i * 4 + 1, none⟩ = some (.bool (S.dir i)) := hcell 1 (by omega)
        have y2 : wo.cell? ⟨g, off + i * 4 + 2, none⟩ = some (ev i) := hcell 2 (by omega)
        have HKI := lhi (show kids S x = if S.dir i then entsOf S i else [] by unfold kids; rw [hfi])
        have hent := HS.out.ent i hil
        obtain ⟨EA, ecap, hev⟩ := hent.form
        rw [hev] at y2 hent
        have hne := HSm.out.en i
        have HENT := lhi hent
        have HSN := lhi (entsTo_snoc S i)
        have HEU := lhi (fun j => HSm.out.enu i j)
        have HMU := lhi (fun j (h : j < S.ne i) => mem_univ hil h)
        have HEO := lhi (show entsOf S i = (List.range (S.ne i)).map (S.enu i) from rfl)
        clear hfi hcall hcell hent hev
        generalize S.ne i = ne at *
        generalize S.dir i = dv at *
        rcases bool_tf dv with rfl | rfl
        ·go_wp2_with (go_at_call 73; refine HF.out.mono ?_; rintro e w' ⟨rfl, hw⟩; obtain rfl := hw.symm)
         clear hx y1 y2 HF
         go_loopw [10, 70] (fun todo kk wr => ∃ (j : Nat) (Fj : List Int), kk = .int .i64 j /\ j <= ne /\ Fj = addAll F ((List.range j).map (S.enu i)) /\ Fj.length + out (univ S) Fj <= (univ S).length + 1 /\ p < Fj.length /\ At w0 w wr c sb (.slice (some ⟨g, off, none⟩) k cap) ov mv D /\ QS wr w.heap.size todo (Fj.drop p) /\ MapB wr fb Fj.length (fun x => Fj.contains x) /\ MapI wr mb nm (fun x => (manyF S x : Nat))) (fun _ kk _ => ne - (intOf kk).toNat)
         case atStart => exact ⟨0, F, rfl, by omega, rfl, HFB.out, hp2, HAT.out, HQ.out, HMB.out, HMI.out⟩
         case round =>
          obtain ⟨j, Fj, rfl, hj, hFj, hFjb, hpj, hat, hq, hmB, hmI⟩ := hrel
          have HAT := lhi hat
          have HMB := lhi hmB
          have HMI := lhi hmI
          have HQ := lhi hq
          have HFJ := lhi hFj
          have HFJB := lhi hFjb
          clear hat hmB hmI hq hFj hFjb
          by_cases hlt : j < ne
          ·obtain ⟨-, -, eg, eoff, rfl, hcell⟩ := (HENT.out.keep HAT.out.1.bel).at_ hlt
           have r0 : wr.cell? ⟨eg, eoff + j * 2, none⟩ = some (.string (S.enm i j)) := hcell 0 (by omega)
           have r1 : wr.cell? ⟨eg, eoff + j * 2 + 1, none⟩ = some (.int .i64 (S.enu i j)) := hcell 1 (by omega)
           have hlt2 : (j : Int) < ne := by omega
           have hnu := HEU.out j
           have HMX := lhi (HMU.out j hlt)
           have HSJ := lhi (show addAll F ((List.range (j + 1)).map (S.enu i)) = add1 Fj (S.enu i j) by rw [HSN.out j, addAll_snoc, <- HFJ.out])
           clear hcell HFJ
           generalize S.enm i j = nme at *
           generalize S.enu i j = nu at *
           have HE := lhi (Blk.new wr 141 #[.string nme, .int .i64 nu])
           have HAT2 := lhi (HAT.out.alloc (Obj.cells #[.string nme, .int .i64 nu] 141))
           have HMB2 := lhi (HMB.out.alloc (Obj.cells #[.string nme, .int .i64 nu] 141))
           have HMI2 := lhi (HMI.out.alloc (Obj.cells #[.string nme, .int .i64 nu] 141))
           have HQ2 := lhi (HQ.out.alloc (Obj.cells #[.string nme, .int .i64 nu] 141))
           have hwr : w.heap.size <= wr.heap.size := HAT.out.2.size
           clear HAT HMB HMI HQ
           have hlook := HMB2.out.look hnu
           generalize hcb : Fj.contains nu = cb at hlook
           have HCB := lhi hcb
           clear hcb
           have HUL := lhi (univ_len S HSm.out)
           rcases bool_tf cb with rfl | rfl
           ·have HS1 := lhi (show Fj = addAll F ((List.range (j + 1)).map (S.enu i)) by rw [HSJ.out]; unfold add1; rw [if_pos HCB.out])
            go_wp2_with (fail)
            go_roundw
            case rel => exact ⟨j + 1, Fj, by go_num, by omega, HS1.out, HFJB.out, hpj, HAT2.out, HQ2.out, HMB2.out, HMI2.out⟩
            case measure =>
             simp only [intOf]
             omega
           ·have HS1 := lhi (show Fj ++ [nu] = addAll F ((List.range (j + 1)).map (S.enu i)) by rw [HSJ.out]; unfold add1; rw [if_neg (by rw [HCB.out]; decide)])
            have HO := lhi (add1_out HMX.out HCB.out)
            have hbase : w.heap.size <= wr.heap.size := hwr
            have HLB := lhi (show (Fj.drop p).length <= 1000000000 by rw [List.length_drop]; have := HFJB.out; have := HUL.out; omega)
            go_wp2_with (first | (at_mapUpdate; refine wpList_setB _ rfl (.tmp 79) (.tmp 81) (.const (.bool true)) (.inl rfl) fb Fj.length _ rfl HMB2.out (by have := HFJB.out; have := HUL.out; omega) nu hnu rfl true rfl ?_; intro w5 hM5 hG5; have e1 : w5.cell? ⟨wr.heap.size, 1, none⟩ = some (.int .i64 nu) := (HE.out.turn HMB2.out.obj hG5).cell 1) | (at_builtin; refine wpList_push _ rfl (.tmp 82) (.tmp 85) rfl w.heap.size _ _ rfl ((HQ2.out.turn HMB2.out.obj hG5).alloc (Obj.cells #[.int .i64 nu] 3)) HLB.out (by have := hG5.size; simp at this ⊢; omega) w5.heap.size nu rfl ((Blk.new w5 3 #[.int .i64 nu]).cell 0) ?_; intro v6 w6 row6 hQ6 hG6 hR6))
            have hob := HMB2.out.obj
            have hbi := (HMI2.out.kept hG5 (fun e => hfm (Option.some.inj e).symm))
            have HR1 := lhi (((HAT2.out.turn hob hfb hw0 hG5).alloc (Obj.cells #[.int .i64 nu] 3)).row hw0 hG6 hR6)
            have HR2 := lhi ((hM5.alloc (Obj.cells #[.int .i64 nu] 3)).row hG6 hR6)
            have HR3 := lhi ((hbi.alloc (Obj.cells #[.int .i64 nu] 3)).row hG6 hR6)
            have HR5 := lhi (show QS w6 w.heap.size v6 ((Fj ++ [nu]).drop p) by rw [List.drop_append_of_le_length (by omega)]; exact hQ6)
            clear hQ6 hG6 hR6 hM5 hG5 hbi hob e1 hlook
            go_wp2_with (fail)
            go_roundw
            case rel => exact ⟨j + 1, Fj ++ [nu], by go_num, by omega, HS1.out, Nat.le_trans HO.out HFJB.out, by simp; omega, HR1.out, HR5.out, by rw [show (Fj ++ [nu]).length = Fj.length + 1 by simp]; exact HR2.out.congr (fun z => (contains_snoc Fj nu z).symm), HR3.out⟩
            case measure =>
             simp only [intOf]
             omega
          ·have e : j = ne := by omega
           subst e
           have HFE := lhi (show Fj = addAll F (kids S x) by rw [HFJ.out, HKI.out, HEO.out]; simp)
           go_wp2_with (fail)
           go_meet
           case rel => exact ⟨Fj, HFE.out, HFJB.out, hpj, HAT.out, HQ.out, HMB.out, HMI.out⟩
        ·have HKI := lhi (show addAll F (kids S x) = F by rw [HKI.out, if_neg (by decide)]; rfl)
         go_wp2_with (go_at_call 73; refine HF.out.mono ?_; rintro e w' ⟨rfl, hw⟩; obtain rfl := hw.symm)
         go_meet
         case rel => exact ⟨F, HKI.out.symm, HFB.out, hp2, HAT.out, HQ.out, HMB.out, HMI.out⟩
      case rest =>
       obtain ⟨F', hF', hFB', hp3, hat, hq, hmB, hmI⟩ := hcut
       have HAT2 := lhi hat
       have HMB2 := lhi hmB
       have HMI2 := lhi hmI
       have HFB2 := lhi hFB'
       obtain ⟨f, hff⟩ : ∃ f, gk = f + 1 := ⟨gk - 1, by
        have h1 := HFP.out
        have h2 := HFB.out
        omega⟩
       have HBN := lhi (show foundF S = bfs S f F' (p + 1) by
        rw [HBF.out, hff, hF']
        show (match F[p]? with
         | some x => bfs S f (addAll F (kids S x)) (p + 1)
         | none => F) = _
        rw [HFX.out])
       have HFF := lhi (show f + (p + 1) = (univ S).length + 2 by have := HFP.out; omega)
       have HFG := lhi (show f < gk by omega)
       obtain ⟨y, rest', hd⟩ : ∃ y rest', F'.drop p = y :: rest' := ⟨F'[p], F'.drop (p + 1), List.drop_eq_getElem_cons hp3⟩
       have HR2 := lhi (show rest' = F'.drop (p + 1) by have := congrArg List.tail hd; simpa using this.symm)
       rw [hd] at hq
       obtain ⟨qg, qo, qc, rfl, hqc, _⟩ := hq.form
       have HT := lhi hq.tail
       simp only [List.length_cons] at hqc HT ⊢
       clear hat hq hmB hmI hFB' hF' hff hd HAT HMB HMI HQ HBF HFX HRS HFP hx
       generalize rest'.length = rl at *
       by_cases hc1 : qc = 1
       ·subst hc1
        have e : rl = 0 := by omega
        subst e
        go_wp2_with (fail)
        go_roundg f
        case measure => exact HFG.out
        case rel => exact ⟨F', p + 1, HFF.out, HFB2.out, hp3, HBN.out, HAT2.out, HR2.out ▸ HT.out.1 (by first | rfl | trivial), HMB2.out, HMI2.out⟩
       ·go_wp2_with (fail)
        go_roundg f
        case measure => exact HFG.out
        case rel => exact ⟨F', p + 1, HFF.out, HFB2.out, hp3, HBN.out, HAT2.out, HR2.out ▸ HT.out.2 hc1, HMB2.out, HMI2.out⟩
     ·have hz : (F.drop p).length = 0 := by rw [List.length_drop]; omega
      have HFE := lhi (show foundF S = F by
       rw [HBF.out]
       have hn : F[p]? = none := List.getElem?_eq_none (by omega)
       cases gk with
       | zero => rfl
       | succ f =>
        show (match F[p]? with
         | some x => bfs S f (addAll F (kids S x)) (p + 1)
         | none => F) = F
        rw [hn])
      rw [hz]
      clear htcell hz
      go_wp2_with (fail)
      go_ret2
      exact ⟨fb, mb, _, _, rfl, by rw [HNN.out]; exact HAT.out, HMB.out.congr (fun x => by unfold foundB; rw [HFE.out]), HMI.out⟩
end
section
open Go.RowKit
set_option maxHeartbeats 1000000
def isOpenB (S : St) (x : Int) : Bool := (List.range S.opens.length).any fun i => S.on i == x
set_option maxRecDepth 1000000 in
theorem tree1_calls {w : World} {xg : Nat} {x : Int} (h : w.cell? ⟨xg, 0, none⟩ = some (.int .i64 x)) (a b n : Int) :
  Calls Tryz.prog 77 #[.agg #[.int .i64 a, .int .i64 b, .int .i64 n], .pointer (some ⟨xg, 0, none⟩)] w fun e w' => e = .returned (.bool (n == x)) /\ Below w.heap.size w w' := by
 have hlt := World.block_lt_of_cell? w _ h
 have hne := World.new_ne w _ h
 have hx : (w.alloc (.cells #[.int .i64 a, .int .i64 b, .int .i64 n] 109)).cell? ⟨xg, 0, none⟩ = some (.int .i64 x) := (Below.cell ((Below.refl _ _).alloc (Nat.le_refl _) _) hlt).trans h
 go_enter Tryz.func77, Tryz.ntmps77
 go_wp2_with (fail)
 go_ret
 exact ⟨rfl, (Below.refl _ _).alloc (Nat.le_refl _) _⟩
set_option maxRecDepth 1000000 in
theorem indexFunc_calls {w : World} {xg : Nat} {x : Int} {ov : Value} {S : St} (h : w.cell? ⟨xg, 0, none⟩ = some (.int .i64 x)) (hO : RowAt w ov S.opens.length 3 (opnC S)) (hn : S.opens.length <= 1000) :
  Calls Tryz.prog 108 #[ov, .func (.func 77) #[] #[.pointer (some ⟨xg, 0, none⟩)]] w fun e w' => ∃ r : Int, e = .returned (.int .i64 r) /\ decide (0 <= r) = isOpenB S x /\ Below w.heap.size w w' := by
 obtain ⟨A, cap, rfl⟩ := hO.form
 have HO := lhi hO
 have HX := lhi h
 have hlt := World.block_lt_of_cell? w _ h
 have HLT := lhi hlt
 have HY := lhi (show isOpenB S x = (List.range S.opens.length).any fun i => S.on i == x from rfl)
 clear hO h hlt
 obtain ⟨n, hnn⟩ : ∃ n, S.opens.length = n := ⟨_, rfl⟩
 rw [hnn] at hn HO HY ⊢
 clear hnn
 go_enter Tryz.func108, Tryz.ntmps108
 go_wp2_with (fail)
 go_loopw [8] (fun i wr => ∃ k : Nat, i = .int .i64 k /\ k <= n /\ (∀ j, j < k -> (S.on j == x) = false) /\ Below w.heap.size w wr) (fun i _ => n - (intOf i).toNat)
 case atStart => exact ⟨0, rfl, by omega, fun j hj => absurd hj (by omega), Below.refl _ _⟩
 case round =>
  obtain ⟨k, rfl, hk, hlt, hB⟩ := hrel
  have HL := lhi hlt
  have HB := lhi hB
  clear hlt hB
  by_cases hp : k < n
  ·obtain ⟨-, hcap, g, off, rfl, hcell⟩ := (HO.out.keep HB.out).at_ hp
   have q0 : wr.cell? ⟨g, off + k * 3, none⟩ = some (.int .i64 (S.oc k)) := hcell 0 (by omega)
   have q1 : wr.cell? ⟨g, off + k * 3 + 1, none⟩ = some (.int .i64 (S.of k)) := hcell 1 (by omega)
   have q2 : wr.cell? ⟨g, off + k * 3 + 2, none⟩ = some (.int .i64 (S.on k)) := hcell 2 (by omega)
   have hp1 : (k : Int) < n := by omega
   have HC := lhi (tree1_calls (w := wr) ((HB.out.cell (p := ⟨xg, 0, none⟩) HLT.out).trans HX.out) (S.oc k) (S.of k) (S.on k))
   clear hcell
   generalize hb : (S.on k == x) = bb at *
   have HBB := lhi hb
   clear hb
   rcases bool_tf bb with rfl | rfl
   ·have HE := lhi (show isOpenB S x = true by rw [HY.out, List.any_eq_true]; exact ⟨k, by simpa using hp, HBB.out⟩)
    go_wp2_with (fail)
    refine HC.out.mono ?_
    rintro e w1 ⟨rfl, hB1⟩
    have HB1 := lhi (HB.out.trans (hB1.mono HB.out.size))
    clear hB1
    go_wp2_with (fail)
    go_ret
    exact ⟨k, rfl, by rw [HE.out]; simp, HB1.out⟩
   ·go_wp2_with (fail)
    refine HC.out.mono ?_
    rintro e w1 ⟨rfl, hB1⟩
    have HB1 := lhi (HB.out.trans (hB1.mono HB.out.size))
    clear hB1
    go_wp2_with (fail)
    go_roundw
    case rel =>
     refine ⟨k + 1, by go_num, by omega, fun j hj => ?_, HB1.out⟩
     by_cases h : j = k
     ·subst h; exact HBB.out
     ·exact HL.out j (by omega)
    case measure =>
     simp only [intOf]
     omega
  ·have e : k = n := by omega
   subst e
   have HE := lhi (show isOpenB S x = false by
    rw [HY.out, List.any_eq_false]
    intro j hj
    rw [HL.out j (by simpa using hj)]
    decide)
   go_wp2_with (fail)
   go_ret
   exact ⟨-1, rfl, by rw [HE.out]; rfl, HB.out⟩
set_option maxRecDepth 1000000 in
theorem containsFunc_calls {w : World} {xg : Nat} {x : Int} {ov : Value} {S : St} (h : w.cell? ⟨xg, 0, none⟩ = some (.int .i64 x)) (hO : RowAt w ov S.opens.length 3 (opnC S)) (hn : S.opens.length <= 1000) :
  Calls Tryz.prog 68 #[ov, .func (.func 77) #[] #[.pointer (some ⟨xg, 0, none⟩)]] w fun e w' => e = .returned (.bool (isOpenB S x)) /\ Below w.heap.size w w' := by
 have HI := lhi (indexFunc_calls h hO hn)
 clear hO h
 go_enter Tryz.func68, Tryz.ntmps68
 go_wp2_with (fail)
 refine HI.out.mono ?_
 rintro e w1 ⟨r, rfl, hr, hB1⟩
 have HR := lhi hr
 have HB := lhi hB1
 clear hr hB1
 go_wp2_with (fail)
 go_ret
 exact ⟨by first | rfl | (rw [HR.out]; rfl), HB.out⟩
end
end Go.Proofs.YtkebjgebkneijaaGreatDoor
