
/- law20: the state that the laws make, under their stores. -/
import Derived.Test.YtenlffhoinialaaLawCk
namespace Go.Proofs.Ytenlffhoinialaa
open Go.RowKit
set_option maxHeartbeats 1000000
abbrev svW (g go gm : Nat) : Array Value := #[.slice (some ⟨g, 0, none⟩) 5 5, .slice (some ⟨go, 0, none⟩) 1 1, .slice (some ⟨gm, 0, none⟩) 2 2]
/-- What lies in memory behind 's := whole()'. -/
structure WF (w W : World) (sb g go gm e1 e2 : Nat) (sv I E1 E2 O M : Array Value) : Prop where
  bel : Below w.heap.size w W
  hsb : w.heap.size ≤ sb
  hg : w.heap.size ≤ g
  hgo : w.heap.size ≤ go
  hgm : w.heap.size ≤ gm
  he1 : w.heap.size ≤ e1
  he2 : w.heap.size ≤ e2
  ne : e1 ≠ e2
  st : Blk W sb 26 sv
  ino : Blk W g 56 I
  ent1 : Blk W e1 58 E1
  ent2 : Blk W e2 58 E2
  opn : Blk W go 60 O
  mad : Blk W gm 3 M
namespace WF
variable {w W : World} {sb g go gm e1 e2 : Nat} {sv I E1 E2 O M : Array Value}
theorem start {w1 w2 : World} (hW : Whole w1 w2 g go gm e1 e2 I E1 E2 O M) (hB : Below w.heap.size w w1) (sv : Array Value) : WF w (w2.alloc (.cells sv 26)) w2.heap.size g go gm e1 e2 sv I E1 E2 O M :=
  have h1 := hB.size
  have h2 := hW.bel.size
  have hb := hB.trans (hW.bel.mono hB.size)
  ⟨hb.alloc hb.size _, hb.size, Nat.le_trans h1 hW.hg, Nat.le_trans h1 hW.hgo, Nat.le_trans h1 hW.hgm, Nat.le_trans h1 hW.he1, Nat.le_trans h1 hW.he2, hW.ne, Blk.new _ _ _, hW.ino.alloc _, hW.ent1.alloc _, hW.ent2.alloc _, hW.opn.alloc _, hW.mad.alloc _⟩
theorem below (h : WF w W sb g go gm e1 e2 sv I E1 E2 O M) {W' : World} (hb : Below W.heap.size W W') : WF w W' sb g go gm e1 e2 sv I E1 E2 O M :=
  ⟨h.bel.trans (hb.mono h.bel.size), h.hsb, h.hg, h.hgo, h.hgm, h.he1, h.he2, h.ne, Blk.of_heap (hb.block _ h.st.lt) h.st, Blk.of_heap (hb.block _ h.ino.lt) h.ino, Blk.of_heap (hb.block _ h.ent1.lt) h.ent1, Blk.of_heap (hb.block _ h.ent2.lt) h.ent2, Blk.of_heap (hb.block _ h.opn.lt) h.opn, Blk.of_heap (hb.block _ h.mad.lt) h.mad⟩
theorem alloc (h : WF w W sb g go gm e1 e2 sv I E1 E2 O M) (o : Obj) : WF w (W.alloc o) sb g go gm e1 e2 sv I E1 E2 O M := h.below ((Below.refl _ _).alloc (Nat.le_refl _) o)
theorem drew (h : WF w W sb g go gm e1 e2 sv I E1 E2 O M) : WF w W.drew sb g go gm e1 e2 sv I E1 E2 O M :=
  ⟨⟨h.bel.os, h.bel.tape, h.bel.output, h.bel.size, h.bel.block⟩, h.hsb, h.hg, h.hgo, h.hgm, h.he1, h.he2, h.ne, h.st, h.ino, h.ent1, h.ent2, h.opn, h.mad⟩
theorem drewN (h : WF w W sb g go gm e1 e2 sv I E1 E2 O M) (n : Nat) : WF w (W.drewN n) sb g go gm e1 e2 sv I E1 E2 O M :=
  ⟨⟨h.bel.os, h.bel.tape, h.bel.output, h.bel.size, h.bel.block⟩, h.hsb, h.hg, h.hgo, h.hgm, h.he1, h.he2, h.ne, h.st, h.ino, h.ent1, h.ent2, h.opn, h.mad⟩
theorem setS (h : WF w W sb g go gm e1 e2 sv I E1 E2 O M) (i : Nat) (u : Value) : WF w (W.setCell ⟨sb, i, none⟩ u) sb g go gm e1 e2 (sv.setIfInBounds i u) I E1 E2 O M :=
  ⟨h.bel.setCell (p := ⟨sb, i, none⟩) h.hsb _, h.hsb, h.hg, h.hgo, h.hgm, h.he1, h.he2, h.ne, h.st.set_ i u, h.ino.far (p := ⟨sb, i, none⟩) (h.ino.ne_ h.st (by decide)) u, h.ent1.far (p := ⟨sb, i, none⟩) (h.ent1.ne_ h.st (by decide)) u, h.ent2.far (p := ⟨sb, i, none⟩) (h.ent2.ne_ h.st (by decide)) u, h.opn.far (p := ⟨sb, i, none⟩) (h.opn.ne_ h.st (by decide)) u, h.mad.far (p := ⟨sb, i, none⟩) (h.mad.ne_ h.st (by decide)) u⟩
theorem setI (h : WF w W sb g go gm e1 e2 sv I E1 E2 O M) (i : Nat) (u : Value) : WF w (W.setCell ⟨g, i, none⟩ u) sb g go gm e1 e2 sv (I.setIfInBounds i u) E1 E2 O M :=
  ⟨h.bel.setCell (p := ⟨g, i, none⟩) h.hg _, h.hsb, h.hg, h.hgo, h.hgm, h.he1, h.he2, h.ne, h.st.far (p := ⟨g, i, none⟩) (h.st.ne_ h.ino (by decide)) u, h.ino.set_ i u, h.ent1.far (p := ⟨g, i, none⟩) (h.ent1.ne_ h.ino (by decide)) u, h.ent2.far (p := ⟨g, i, none⟩) (h.ent2.ne_ h.ino (by decide)) u, h.opn.far (p := ⟨g, i, none⟩) (h.opn.ne_ h.ino (by decide)) u, h.mad.far (p := ⟨g, i, none⟩) (h.mad.ne_ h.ino (by decide)) u⟩
theorem setO (h : WF w W sb g go gm e1 e2 sv I E1 E2 O M) (i : Nat) (u : Value) : WF w (W.setCell ⟨go, i, none⟩ u) sb g go gm e1 e2 sv I E1 E2 (O.setIfInBounds i u) M :=
  ⟨h.bel.setCell (p := ⟨go, i, none⟩) h.hgo _, h.hsb, h.hg, h.hgo, h.hgm, h.he1, h.he2, h.ne, h.st.far (p := ⟨go, i, none⟩) (h.st.ne_ h.opn (by decide)) u, h.ino.far (p := ⟨go, i, none⟩) (h.ino.ne_ h.opn (by decide)) u, h.ent1.far (p := ⟨go, i, none⟩) (h.ent1.ne_ h.opn (by decide)) u, h.ent2.far (p := ⟨go, i, none⟩) (h.ent2.ne_ h.opn (by decide)) u, h.opn.set_ i u, h.mad.far (p := ⟨go, i, none⟩) (h.mad.ne_ h.opn (by decide)) u⟩
theorem setE1 (h : WF w W sb g go gm e1 e2 sv I E1 E2 O M) (i : Nat) (u : Value) : WF w (W.setCell ⟨e1, i, none⟩ u) sb g go gm e1 e2 sv I (E1.setIfInBounds i u) E2 O M :=
  ⟨h.bel.setCell (p := ⟨e1, i, none⟩) h.he1 _, h.hsb, h.hg, h.hgo, h.hgm, h.he1, h.he2, h.ne, h.st.far (p := ⟨e1, i, none⟩) (h.st.ne_ h.ent1 (by decide)) u, h.ino.far (p := ⟨e1, i, none⟩) (h.ino.ne_ h.ent1 (by decide)) u, h.ent1.set_ i u, h.ent2.far (p := ⟨e1, i, none⟩) (Ne.symm h.ne) u, h.opn.far (p := ⟨e1, i, none⟩) (h.opn.ne_ h.ent1 (by decide)) u, h.mad.far (p := ⟨e1, i, none⟩) (h.mad.ne_ h.ent1 (by decide)) u⟩
theorem setE2 (h : WF w W sb g go gm e1 e2 sv I E1 E2 O M) (i : Nat) (u : Value) : WF w (W.setCell ⟨e2, i, none⟩ u) sb g go gm e1 e2 sv I E1 (E2.setIfInBounds i u) O M :=
  ⟨h.bel.setCell (p := ⟨e2, i, none⟩) h.he2 _, h.hsb, h.hg, h.hgo, h.hgm, h.he1, h.he2, h.ne, h.st.far (p := ⟨e2, i, none⟩) (h.st.ne_ h.ent2 (by decide)) u, h.ino.far (p := ⟨e2, i, none⟩) (h.ino.ne_ h.ent2 (by decide)) u, h.ent1.far (p := ⟨e2, i, none⟩) h.ne u, h.ent2.set_ i u, h.opn.far (p := ⟨e2, i, none⟩) (h.opn.ne_ h.ent2 (by decide)) u, h.mad.far (p := ⟨e2, i, none⟩) (h.mad.ne_ h.ent2 (by decide)) u⟩
end WF
/-- The end of most laws: what State found is what was written out. -/
theorem same_lit {w5 : World} {v : Value} {f : Fnd} (h : RowAt w5 v [f].length 3 (fndC [f])) :
    Calls Try.prog 17 #[v, .slice (some ⟨w5.heap.size, 0, none⟩) 1 1] (w5.alloc (.cells #[.int .i64 f.kind, .int .i64 f.num, .string f.name] 64)) fun e w' => e = .returned (.bool true) ∧ Below w5.heap.size w5 w' :=
  (same_fnd (h.keep ((Below.refl _ w5).alloc (Nat.le_refl _) _)) (lit1 (Blk.new w5 64 #[.int .i64 f.kind, .int .i64 f.num, .string f.name])) (by simp)).mono fun _ _ ⟨h1, d, h2⟩ => ⟨h1, by
    subst h2
    have := (Below.refl w5.heap.size w5).alloc (Nat.le_refl _) (.cells #[.int .i64 f.kind, .int .i64 f.num, .string f.name] 64)
    exact ⟨this.os, this.tape, this.output, this.size, this.block⟩⟩
end Go.Proofs.Ytenlffhoinialaa
