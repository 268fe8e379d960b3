/- check: a state as it lies in memory, the checker, what a call keeps. -/
import Derived.Test.YtenlffhoinialaaMNM
import Derived.Deep.RegionHeld3
import Derived.Deep.DrawnRows
import Derived.Deep.DeepCutAuto
import Derived.Deep.AppendLies
import Derived.Laws.OwnMore
import Derived.Maps.OwnSet
namespace Go.Proofs.Ytenlffhoinialaa
open Go.RowKit
set_option maxHeartbeats 400000

/-- A slice value whose n rows of k cells read as C. -/
def RowAt (w : World) (v : Value) (n k : Nat) (C : Nat → Nat → Value) : Prop :=
  ∃ A cap, v = .slice A n cap ∧ n ≤ cap ∧ (0 < n → ∃ g off, A = some ⟨g, off, none⟩ ∧ ∀ i j, i < n → j < k → w.cell? ⟨g, off + (i * k + j), none⟩ = some (C i j))
theorem RowAt.keep {w w' : World} {v : Value} {n k : Nat} {C : Nat → Nat → Value} (h : RowAt w v n k C) (hb : Below w.heap.size w w') : RowAt w' v n k C := by
  obtain ⟨A, cap, h2, h3, h4⟩ := h
  refine ⟨A, cap, h2, h3, fun hn => ?_⟩
  obtain ⟨g, off, hA, hc⟩ := h4 hn
  exact ⟨g, off, hA, fun i j hi hj => (hb.cell (World.block_lt_of_cell? w _ (hc i j hi hj))).trans (hc i j hi hj)⟩
theorem RowAt.nil_ (w : World) (k : Nat) (C : Nat → Nat → Value) : RowAt w (.slice none 0 0) 0 k C := ⟨_, _, rfl, Nat.le_refl _, fun h => absurd h (by omega)⟩
theorem RowAt.blk {w : World} {g n cap k : Nat} {t : TypeId} {cs : Array Value} {C : Nat → Nat → Value} (h : Blk w g t cs) (hn : n ≤ cap) (hC : ∀ i j, i < n → j < k → cs[i * k + j]? = some (C i j)) : RowAt w (.slice (some ⟨g, 0, none⟩) n cap) n k C :=
  ⟨_, _, rfl, hn, fun _ => ⟨g, 0, rfl, fun i j hi hj => by rw [Nat.zero_add, h.cell]; exact hC i j hi hj⟩⟩

structure Ino where
  num : Int
  dir : Bool
  ents : List (ByteArray × Int)
  data : ByteArray
structure St where
  inodes : List Ino
  opens : List (Int × Int × Int)
  made : List Int
def noIno : Ino := ⟨0, false, [], ByteArray.empty⟩
def St.ino (S : St) (i : Nat) : Ino := S.inodes.getD i noIno
def St.num (S : St) (i : Nat) : Int := (S.ino i).num
def St.dir (S : St) (i : Nat) : Bool := (S.ino i).dir
def St.dat (S : St) (i : Nat) : ByteArray := (S.ino i).data
def St.ne (S : St) (i : Nat) : Nat := (S.ino i).ents.length
def St.enm (S : St) (i k : Nat) : ByteArray := ((S.ino i).ents.getD k (ByteArray.empty, 0)).1
def St.enu (S : St) (i k : Nat) : Int := ((S.ino i).ents.getD k (ByteArray.empty, 0)).2
def St.oc (S : St) (i : Nat) : Int := (S.opens.getD i (0, 0, 0)).1
def St.of (S : St) (i : Nat) : Int := (S.opens.getD i (0, 0, 0)).2.1
def St.on (S : St) (i : Nat) : Int := (S.opens.getD i (0, 0, 0)).2.2
def St.mad (S : St) (i : Nat) : Int := S.made.getD i 0
def inoC (S : St) (ev : Nat → Value) : Nat → Nat → Value := fun i j => match j with
  | 0 => .int .i64 (S.num i)
  | 1 => .bool (S.dir i)
  | 2 => ev i
  | _ => .string (S.dat i)
def entC (S : St) (i : Nat) : Nat → Nat → Value := fun k j => match j with
  | 0 => .string (S.enm i k)
  | _ => .int .i64 (S.enu i k)
def opnC (S : St) : Nat → Nat → Value := fun k j => match j with
  | 0 => .int .i64 (S.oc k)
  | 1 => .int .i64 (S.of k)
  | _ => .int .i64 (S.on k)
def madC (S : St) : Nat → Nat → Value := fun k _ => .int .i64 (S.mad k)
/-- A state in memory. -/
structure StM (w : World) (iv ov mv : Value) (ev : Nat → Value) (S : St) : Prop where
  ino : RowAt w iv S.inodes.length 4 (inoC S ev)
  ent : ∀ i, i < S.inodes.length → RowAt w (ev i) (S.ne i) 2 (entC S i)
  opn : RowAt w ov S.opens.length 3 (opnC S)
  mad : RowAt w mv S.made.length 1 (madC S)
theorem StM.keep {w w' : World} {iv ov mv : Value} {ev : Nat → Value} {S : St} (h : StM w iv ov mv ev S) (hb : Below w.heap.size w w') : StM w' iv ov mv ev S :=
  ⟨h.ino.keep hb, fun i hi => (h.ent i hi).keep hb, h.opn.keep hb, h.mad.keep hb⟩
/-- Small: what every state of these statements is. -/
structure St.small (S : St) : Prop where
  ni : S.inodes.length ≤ 1000
  no : S.opens.length ≤ 1000
  nm : S.made.length ≤ 1000
  en : ∀ i, S.ne i ≤ 1000
  num : ∀ i, -1000000 ≤ S.num i ∧ S.num i ≤ 1000000
  enu : ∀ i k, -1000000 ≤ S.enu i k ∧ S.enu i k ≤ 1000000
  mad : ∀ i, -1000000 ≤ S.mad i ∧ S.mad i ≤ 1000000

structure Fnd where
  kind : Int
  num : Int
  name : ByteArray
def encF (f : Fnd) : List Value := [.int .i64 f.kind, .int .i64 f.num, .string f.name]

/-! ### What a call keeps, by the blocks' types -/
def freeO : Obj → Prop
  | .cells _ t _ => t ≠ 64 ∧ t ≠ 74
  | _ => True
structure KeepsT (w w' : World) : Prop where
  size : w.heap.size ≤ w'.heap.size
  block : ∀ (k : Nat) (o : Obj), w.heap[k]? = some o → freeO o → w'.heap[k]? = some o
namespace KeepsT
variable {w w' w'' : World}
theorem refl (w : World) : KeepsT w w := ⟨Nat.le_refl _, fun _ _ h _ => h⟩
theorem trans (h : KeepsT w w') (k : KeepsT w' w'') : KeepsT w w'' := ⟨Nat.le_trans h.size k.size, fun i o hi hf => k.block i o (h.block i o hi hf) hf⟩
theorem below (h : KeepsT w w') (hb : Below w'.heap.size w' w'') : KeepsT w w'' := h.trans ⟨hb.size, fun k o hk _ => by
  rw [hb.block k (by rcases Nat.lt_or_ge k w'.heap.size with hl | hl; exact hl; rw [Array.getElem?_eq_none hl] at hk; cases hk)]; exact hk⟩
theorem alloc (h : KeepsT w w') (o : Obj) : KeepsT w (w'.alloc o) := h.below ((Below.refl _ _).alloc (Nat.le_refl _) o)
theorem drew (h : KeepsT w w') : KeepsT w w'.drew := ⟨h.size, h.block⟩
theorem drewN (h : KeepsT w w') (n : Nat) : KeepsT w (w'.drewN n) := ⟨h.size, h.block⟩
theorem undrew (h : KeepsT w.drew w') : KeepsT w w' := ⟨h.size, h.block⟩
theorem undrewN {n : Nat} (h : KeepsT (w.drewN n) w') : KeepsT w w' := ⟨h.size, h.block⟩
theorem blk (h : KeepsT w w') {g : Nat} {t : TypeId} {cs : Array Value} (hb : Blk w g t cs) (h1 : t ≠ 64) (h2 : t ≠ 74) : Blk w' g t cs := h.block g _ hb ⟨h1, h2⟩
end KeepsT

theorem blk_grown {w w' : World} {q : Nat} {t : TypeId} {cs : Array Value} {row : Option Nat} (hg : w.grownBy w' row) (h : Blk w q t cs) (hne : row ≠ some q) : Blk w' q t cs := Blk.of_heap (hg.block _ h.lt (Ne.symm hne)) h
theorem heap_alloc_lt (w : World) (o : Obj) {q : Nat} (h : q < w.heap.size) : (w.alloc o).heap[q]? = w.heap[q]? := Below.heap_alloc w o q h
theorem heap_lt {w : World} {q : Nat} {o : Obj} (h : w.heap[q]? = some o) : q < w.heap.size := by
  rcases Nat.lt_or_ge q w.heap.size with hl | hl
  · exact hl
  · rw [Array.getElem?_eq_none hl] at h; cases h
theorem own_type {w : World} {base : Nat} {e : TypeId} {size k : Nat} {v : Value} {xs : List Value} (h : w.ownsRow base e size v k xs) {q : Nat} (hq : v.ownBlock = some q) : base ≤ q ∧ ∃ cs, Blk w q e cs := by
  rcases h.2 with ⟨rfl, _⟩ | ⟨g, cap, cur, rfl, hb, hh, _⟩
  · cases hq
  · have : g = q := by simpa [Value.ownBlock] using hq
    subst this
    exact ⟨hb, cur, hh⟩
/-- The checker: its state's block, its own, the findings so far. -/
structure Ck (w0 w : World) (c sb : Nat) (iv ov mv : Value) (D : List Fnd) : Prop where
  bel : Below w0.heap.size w0 w
  sB : w0.heap.size ≤ sb
  sat : Blk w sb 26 #[iv, ov, mv]
  cB : w0.heap.size ≤ c
  row : ∃ v, Blk w c 74 #[.pointer (some ⟨sb, 0, none⟩), v] ∧ w.ownsRow w0.heap.size 64 3 v D.length (D.flatMap encF)
theorem encF_len (D : List Fnd) : (D.flatMap encF).length = D.length * 3 := by
  induction D with
  | nil => rfl
  | cons e D ih => rw [List.flatMap_cons, List.length_append, ih]; simp [encF]; omega
theorem own_below {w w' : World} {base : Nat} {e : TypeId} {size k : Nat} {v : Value} {xs : List Value} (h : w.ownsRow base e size v k xs) (hb : Below w.heap.size w w') : w'.ownsRow base e size v k xs := by
  refine ⟨h.1, ?_⟩
  rcases h.2 with h2 | ⟨g, cap, cur, hv, hg, hh, rest⟩
  · exact .inl h2
  · refine .inr ⟨g, cap, cur, hv, hg, ?_, rest⟩
    rw [hb.block g (Blk.lt (show Blk w g _ cur from hh))]
    exact hh
namespace Ck
variable {w0 w w' : World} {c sb : Nat} {iv ov mv : Value} {D : List Fnd}
theorem below (h : Ck w0 w c sb iv ov mv D) (hb : Below w.heap.size w w') : Ck w0 w' c sb iv ov mv D := by
  obtain ⟨v, h1, h2⟩ := h.row
  exact ⟨h.bel.trans (hb.mono h.bel.size), h.sB, Blk.of_heap (hb.block _ h.sat.lt) h.sat, h.cB, v, Blk.of_heap (hb.block _ h1.lt) h1, own_below h2 hb⟩
theorem alloc (h : Ck w0 w c sb iv ov mv D) (o : Obj) : Ck w0 (w.alloc o) c sb iv ov mv D := h.below ((Below.refl _ _).alloc (Nat.le_refl _) o)
theorem drew (h : Ck w0 w c sb iv ov mv D) : Ck w0 w.drew c sb iv ov mv D := by
  obtain ⟨v, h1, h2⟩ := h.row
  exact ⟨⟨h.bel.os, h.bel.tape, h.bel.output, h.bel.size, h.bel.block⟩, h.sB, h.sat, h.cB, v, h1, h2⟩
theorem drewN (h : Ck w0 w c sb iv ov mv D) (n : Nat) : Ck w0 (w.drewN n) c sb iv ov mv D := by
  obtain ⟨v, h1, h2⟩ := h.row
  exact ⟨⟨h.bel.os, h.bel.tape, h.bel.output, h.bel.size, h.bel.block⟩, h.sB, h.sat, h.cB, v, h1, h2⟩
/-- A block of another type, new since the beginning, is written: the checker stays. -/
theorem set (h : Ck w0 w c sb iv ov mv D) {g : Nat} {t : TypeId} {cs : Array Value} (hg : Blk w g t cs) (hB : w0.heap.size ≤ g) (h1 : t ≠ 64) (h2 : t ≠ 74) (h3 : t ≠ 26) (i : Nat) (u : Value) : Ck w0 (w.setCell ⟨g, i, none⟩ u) c sb iv ov mv D := by
  obtain ⟨v, r1, r2⟩ := h.row
  refine ⟨h.bel.setCell (p := ⟨g, i, none⟩) hB _, h.sB, h.sat.far (p := ⟨g, i, none⟩) (Blk.ne_ h.sat hg (Ne.symm h3)) _, h.cB, v, r1.far (p := ⟨g, i, none⟩) (Blk.ne_ r1 hg (Ne.symm h2)) _, ?_⟩
  refine ⟨r2.1, ?_⟩
  rcases r2.2 with q | ⟨g', cap, cur, hv, hg', hh, rest⟩
  · exact .inl q
  · exact .inr ⟨g', cap, cur, hv, hg', (Blk.far (p := ⟨g, i, none⟩) (show Blk w g' _ cur from hh) (Blk.ne_ (t := 64) hh hg (Ne.symm h1)) u), rest⟩
/-- The cells through the checker to the state. -/
theorem c0 (h : Ck w0 w c sb iv ov mv D) : w.cell? ⟨c, 0, none⟩ = some (.pointer (some ⟨sb, 0, none⟩)) := by
  obtain ⟨v, h1, _⟩ := h.row
  exact h1.cell 0
theorem s0 (h : Ck w0 w c sb iv ov mv D) : w.cell? ⟨sb, 0, none⟩ = some iv := h.sat.cell 0
theorem s1 (h : Ck w0 w c sb iv ov mv D) : w.cell? ⟨sb, 1, none⟩ = some ov := h.sat.cell 1
theorem s2 (h : Ck w0 w c sb iv ov mv D) : w.cell? ⟨sb, 2, none⟩ = some mv := h.sat.cell 2
theorem cells4 (h : Ck w0 w c sb iv ov mv D) : w.cell? ⟨c, 0, none⟩ = some (.pointer (some ⟨sb, 0, none⟩)) ∧ w.cell? ⟨sb, 0, none⟩ = some iv ∧ w.cell? ⟨sb, 1, none⟩ = some ov ∧ w.cell? ⟨sb, 2, none⟩ = some mv := ⟨h.c0, h.s0, h.s1, h.s2⟩
theorem stm (h : Ck w0 w c sb iv ov mv D) {ev : Nat → Value} {S : St} (hS : StM w0 iv ov mv ev S) : StM w iv ov mv ev S := hS.keep h.bel
end Ck

theorem info_fnd : (Try.prog.info? 64).map (fun i => (i.zero, i.size, i.bytes)) = some (some (.agg #[.int .i64 0, .int .i64 0, .string ⟨#[]⟩]), 3, 32) := by kernel_rfl
set_option maxRecDepth 1000000 in
theorem add_calls {w0 w : World} {c sb : Nat} {iv ov mv : Value} {D : List Fnd} (h : Ck w0 w c sb iv ov mv D) (hD : D.length ≤ 1000000000) (k x : Int) (s : ByteArray) :
    Calls Try.prog 69 #[.pointer (some ⟨c, 0, none⟩), .int .i64 k, .int .i64 x, .string s] w fun e w' => e = .returned (.tuple #[]) ∧ Ck w0 w' c sb iv ov mv (D ++ [⟨k, x, s⟩]) ∧ KeepsT w w' := by
  obtain ⟨v, h1, h2⟩ := h.row
  have c1 : w.cell? ⟨c, 1, none⟩ = some v := h1.cell 1
  have f1 : w.frozen? ⟨c, 1, none⟩ = false := h1.frozen 1
  have HC := Lib.hid h
  have H1 := Lib.hid h1
  have H2 := Lib.hid h2
  have hcl := h1.lt
  obtain ⟨i0, hi, hz0, hz1, hz2⟩ := info_parts info_fnd
  clear h h1 h2
  have hbase : w0.heap.size ≤ w.heap.size := HC.out.bel.size
  have hne : ¬ w.heap.size = c := by omega
  go_enter Try.func69, Try.ntmps69
  go_wp2_with (at_builtin; refine wpList_append_lies _ rfl (.tmp 12) (.tmp 17) 28 rfl w0.heap.size 64 i0 _ 3 32 Try.underlying28 hi hz0 hz1 hz2 rfl (by decide) v _ _ rfl (H2.out.alloc (Obj.cells #[.int .i64 k, .int .i64 x, .string s] 64)) ⟨w.heap.size, 0, none⟩ 1 1 [.int .i64 k, .int .i64 x, .string s] rfl rfl (World.news_of_block (heap_alloc_new _ _)) (by intro u hu; simp at hu; rcases hu with rfl | rfl | rfl <;> rfl) (by decide) (by simp only [maxLen]; omega) (by omega) (by simp; omega) _ rfl ?_; intro g cap w1 hown hgrow hat hlt; have hB1 := blk_grown hgrow (H1.out.alloc (Obj.cells #[.int .i64 k, .int .i64 x, .string s] 64)) (own_blk_ne H2.out H1.out (by decide)); have c2 : w1.cell? ⟨c, 1, none⟩ = some v := hB1.cell 1; have f2 : w1.frozen? ⟨c, 1, none⟩ = false := hB1.frozen 1)
  have HB1 := Lib.hid hB1
  have hrow : ∀ q, v.ownBlock = some q → w0.heap.size ≤ q ∧ ∃ cs, Blk w q 64 cs := fun q hq => own_type H2.out hq
  have hold : ∀ q o, w.heap[q]? = some o → freeO o → w1.heap[q]? = some o := fun q o hq hf => by
    have hlt' := heap_lt hq
    rw [hgrow.block q (by simp; omega) (fun e => by
      obtain ⟨cs, hb⟩ := (hrow q e.symm).2
      unfold Blk at hb
      rw [hb] at hq
      obtain rfl := Option.some.inj hq
      exact hf.1 rfl), heap_alloc_lt _ _ hlt']
    exact hq
  have hsz : w.heap.size ≤ w1.heap.size := by have := hgrow.size; simp at this; omega
  have hbel : Below w0.heap.size w0 w1 := HC.out.bel.trans ⟨hgrow.os, hgrow.tape, hgrow.output, hsz, fun q hq => by
    rw [hgrow.block q (by simp; omega) (fun e => by have := (hrow q e.symm).1; omega), heap_alloc_lt _ _ (by omega)]⟩
  clear c2 f2
  go_end0
  refine ⟨rfl, ⟨hbel.setCell (p := ⟨c, 1, none⟩) HC.out.cB _, HC.out.sB, ?_, HC.out.cB, _, HB1.out.set_ 1 _, ?_⟩, ⟨by simpa [World.setCell] using hsz, fun q o hq hf => ?_⟩⟩
  · exact Blk.far (p := ⟨c, 1, none⟩) (hold _ _ HC.out.sat ⟨by decide, by decide⟩) (Blk.ne_ HC.out.sat H1.out (by decide)) _
  · have e1 : (D ++ [(⟨k, x, s⟩ : Fnd)]).flatMap encF = D.flatMap encF ++ [.int .i64 k, .int .i64 x, .string s] := by simp [encF]
    have e2 : (D ++ [(⟨k, x, s⟩ : Fnd)]).length = D.length + 1 := by simp
    rw [e1, e2]
    refine ⟨hown.1, ?_⟩
    rcases hown.2 with q | ⟨g', cap', cur, hv, hg', hh, rest⟩
    · exact .inl q
    · exact .inr ⟨g', cap', cur, hv, hg', (Blk.far (p := ⟨c, 1, none⟩) (show Blk w1 g' _ cur from hh) (Blk.ne_ (t := 64) hh HB1.out (by decide)) _), rest⟩
  · rw [Below.heap_setCell _ _ _ _ (fun e : q = c => by
      subst e
      have := H1.out
      unfold Blk at this
      rw [this] at hq
      obtain rfl := Option.some.inj hq
      exact hf.2 rfl)]
    exact hold q o hq hf
end Go.Proofs.Ytenlffhoinialaa
