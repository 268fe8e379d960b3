
/- dir.List. -/
import Derived.Test.YtkbajjpdngfhbaaDirMove
import Derived.Test.YtkbajjpdngfhbaaDirSort2
import Derived.Maps.AppendAt
import Derived.Deep.AppendLies
import Derived.Deep.RegionHeldLaw
import Derived.Deep.DrawnRows
namespace Go.Proofs.Ytkbajjpdngfhbaa
open Go.RowKit
set_option maxHeartbeats 1000000
set_option maxRecDepth 1000000 in
theorem index_none (w : World) :
    Calls Try.prog 65 #[.slice none 0 0, .func (.func 51) #[] #[]] w fun e w' => e = .returned (.int .i64 (-1)) ∧ Below w.heap.size w w' := by
  go_enter Try.func65, Try.ntmps65
  go_wp2_with (fail)
  go_loopw [8] (fun i wr => i = .int .i64 0 ∧ wr = w) (fun i _ => 0)
  case atStart => exact ⟨rfl, rfl⟩
  case round =>
    obtain ⟨rfl, rfl⟩ := hrel
    go_wp2_with (fail)
    go_ret
    exact ⟨rfl, Below.refl _ _⟩
set_option maxRecDepth 1000000 in
theorem contains_none (w : World) :
    Calls Try.prog 50 #[.slice none 0 0, .func (.func 51) #[] #[]] w fun e w' => e = .returned (.bool false) ∧ Below w.heap.size w w' := by
  go_enter Try.func50, Try.ntmps50
  go_wp2_with (go_at_call 65; refine (index_none _).mono ?_; rintro e w1 ⟨rfl, hB1⟩)
  go_ret
  exact ⟨rfl, hB1⟩
section
variable {L : Nat → Prop} {w : World} {a d : Nat} {ws : List Int} {n m : Nat} {P : List (List Acc) → Prop} {f : Int} {T : Nat → Nat → Option Ent}
set_option maxRecDepth 1000000 in
theorem may0 (h : DAt L w d a f) (hA : ArP L w a ws n m P) (c : Int) :
    Calls Try.prog 29 #[.pointer (some ⟨d, 0, none⟩), .int .i64 c, .slice none 0 0] w fun e w' => e = .returned (.int .i64 (mayE n c [])) ∧ DAt L w' d a f ∧ ArP L w' a ws n m P ∧ Keeps L w w' := by
  have c0 := h.2.1.cell 0
  have hco := Lib.hid (cores_p hA)
  have hbd := hA.bd
  have HD := Lib.hid h
  have HA := Lib.hid hA
  clear h hA
  by_cases hc0 : 0 ≤ c
  · by_cases hc1 : c < (n : Int)
    · have HF := Lib.hid (show mayE n c [] = 0 by unfold mayE; rw [if_pos ⟨⟨hc0, hc1⟩, rfl⟩])
      go_enter Try.func29, Try.ntmps29
      go_wp2_with (first | (go_at_call 49; refine hco.out.mono ?_; rintro e w' ⟨rfl, rfl⟩) | (go_at_call 50; refine (contains_none _).mono ?_; rintro e w1 ⟨rfl, hB1⟩))
      go_ret
      have hk := (Keeps.ofBelow hB1).sub fun j hj => hbd j hj
      exact ⟨by rw [HF.out]; rfl, HD.out.keep hk, HA.out.below hB1, hk⟩
    · have HF := Lib.hid (show mayE n c [] = 900 by unfold mayE; rw [if_neg (fun h => hc1 h.1.2)])
      go_enter Try.func29, Try.ntmps29
      go_wp2_with (go_at_call 49; refine hco.out.mono ?_; rintro e w' ⟨rfl, rfl⟩)
      go_ret
      exact ⟨by rw [HF.out]; rfl, HD.out, HA.out, Keeps.refl _ _⟩
  · have HF := Lib.hid (show mayE n c [] = 900 by unfold mayE; rw [if_neg (fun h => hc0 h.1.1)])
    go_enter Try.func29, Try.ntmps29
    go_wp2_with (go_at_call 49; refine hco.out.mono ?_; rintro e w' ⟨rfl, rfl⟩)
    go_ret
    exact ⟨by rw [HF.out]; rfl, HD.out, HA.out, Keeps.refl _ _⟩
set_option maxRecDepth 1000000 in
theorem List_err (h : DAt L w d a f) (hA : ArP L w a ws n m P) {c : Int} (hc : mayE n c [] = 900) :
    Calls Try.prog 15 #[.pointer (some ⟨d, 0, none⟩), .int .i64 c] w fun e w' => e = .returned (.slice none 0 0) ∧ DAt L w' d a f ∧ ArP L w' a ws n m P ∧ Keeps L w w' := by
  have H := may0 h hA c
  rw [hc] at H
  have H := Lib.hid H
  clear h hA
  go_enter Try.func15, Try.ntmps15
  go_wp2_with (fail)
  refine H.out.mono ?_
  rintro e w1 ⟨rfl, hD, hA, hK⟩
  go_wp2_with (fail)
  go_ret
  exact ⟨rfl, hD, hA, hK⟩

/-- The entries of the first j slots. -/
def entsTo (T : Nat → Nat → Option Ent) (j : Nat) : List Ent := (List.range j).filterMap fun i => T (i / 4) (i % 4)
theorem entsTo_succ (T : Nat → Nat → Option Ent) (b k : Nat) (hk : k < 4) : entsTo T (4 * b + k + 1) = entsTo T (4 * b + k) ++ (T b k).toList := by
  unfold entsTo
  rw [List.range_succ, List.filterMap_append]
  congr 1
  have h1 : (4 * b + k) / 4 = b := by omega
  have h2 : (4 * b + k) % 4 = k := by omega
  simp only [List.filterMap_cons, List.filterMap_nil, h1, h2]
  cases T b k <;> rfl
theorem entsTo_le (T : Nat → Nat → Option Ent) (j : Nat) : (entsTo T j).length ≤ j := by
  unfold entsTo
  have := List.length_filterMap_le (fun i => T (i / 4) (i % 4)) (List.range j)
  simpa using this
/-- What stands while a list is made: the directory, the row of entries so far. -/
structure LSt (L : Nat → Prop) (w wr : World) (d a : Nat) (f : Int) (ws : List Int) (n m : Nat) (P : List (List Acc) → Prop) (v : Value) (D : List Ent) : Prop where
  dat : DAt (lo L v) wr d a f
  ar : ArP (lo L v) wr a ws n m P
  own : wr.ownsRow w.heap.size 54 2 v D.length (D.flatMap encE)
  keep : Keeps L w wr
theorem LSt.call {w wr w' : World} {v : Value} {D : List Ent} {m' : Nat} (h : LSt L w wr d a f ws n m P v D) (hk : Keeps (lo L v) wr w') (hA : ArP (lo L v) w' a ws n m' P) : LSt L w w' d a f ws n m' P v D :=
  ⟨h.dat.keep hk, hA, own_keep h.own hk, h.keep.trans (hk.sub fun _ => .inl)⟩
theorem LSt.below {w wr w' : World} {v : Value} {D : List Ent} (h : LSt L w wr d a f ws n m P v D) (hb : Below wr.heap.size wr w') : LSt L w w' d a f ws n m P v D :=
  h.call ((Keeps.ofBelow hb).sub fun b hl => h.ar.bd b hl) (h.ar.below hb)
theorem LSt.alloc {w wr : World} {v : Value} {D : List Ent} (h : LSt L w wr d a f ws n m P v D) (o : Obj) : LSt L w (wr.alloc o) d a f ws n m P v D := h.below (below_alloc _ _)
theorem own_ge {w : World} {base : Nat} {e : TypeId} {size k : Nat} {v : Value} {xs : List Value} (h : w.ownsRow base e size v k xs) {g : Nat} (hg : v.ownBlock = some g) : base ≤ g := by
  rcases h.2 with ⟨rfl, _⟩ | ⟨g', cap, cur, rfl, hb, _⟩
  · cases hg
  · simp [Value.ownBlock] at hg
    omega
theorem LSt.ld {w wr : World} {v : Value} {D : List Ent} (h : LSt L w wr d a f ws n m P v D) : L d := by
  rcases h.dat.1 with hd | hd
  · exact hd
  · exfalso
    have hb := h.dat.2.1
    rcases h.own.2 with ⟨rfl, _⟩ | ⟨g', cap', cur, rfl, _, hh, _⟩
    · cases hd
    · simp [Value.ownBlock] at hd
      subst hd
      exact (Blk.ne_ (t := 54) hh hb (by decide)) rfl
theorem LSt.grown {w wr w' : World} {v : Value} {D : List Ent} {g cap : Nat} {e : Ent} {k : Nat} (h : LSt L w wr d a f ws n m P v D) (hL : ∀ b, L b → b < w.heap.size) (hown : w'.ownsRow w.heap.size 54 2 (.slice (some ⟨g, 0, none⟩) k cap) k (D.flatMap encE ++ encE e)) (hk : k = D.length + 1)
    (hg : wr.grownBy w' v.ownBlock) (hat : v.ownBlock = some g ∨ wr.heap.size ≤ g) (hlt : g < w'.heap.size) : LSt L w w' d a f ws n m P (.slice (some ⟨g, 0, none⟩) k cap) (D ++ [e]) := by
  have hbd := h.ar.bd
  have hK : Keeps L wr w' := (Keeps.refl L wr).grown hg (hbd.sub fun _ => .inl) fun q hq hl => by
    have := own_ge h.own hq
    have := hL q hl
    omega
  have hkeep := h.keep.trans hK
  have hLd : L d := by
    rcases h.dat.1 with hd | hd
    · exact hd
    · exfalso
      have hb := h.dat.2.1
      rcases h.own.2 with ⟨rfl, _⟩ | ⟨g', cap', cur, rfl, _, hh, _⟩
      · cases hd
      · simp [Value.ownBlock] at hd
        subst hd
        exact (Blk.ne_ (t := 54) hh hb (by decide)) rfl
  refine ⟨⟨.inl hLd, hK.blk h.dat.2.1 hLd, h.dat.2.2⟩, h.ar.grown hg fun g' hg' => ?_, ?_, hkeep⟩
  · have : g = g' := by simpa [Value.ownBlock] using hg'
    subst this
    exact ⟨hat, hlt⟩
  · subst hk
    rw [List.length_append, List.length_singleton, List.flatMap_append]
    simpa using hown

/-- Names rise. -/
def Rise (D : List Ent) : Prop := D.Pairwise fun x y => nlt y.1 x.1 = false
theorem rise_of {D' : Array Ent} {n : Nat} (hs : D'.size = n) (h : Go.Sort.SortedIn (ltOf fun x y : Ent => cmpS x.1 y.1) 0 n D') : Rise D'.toList := by
  unfold Rise
  rw [List.pairwise_iff_getElem]
  intro i j hi hj hij
  have hi' : i < D'.size := by simpa using hi
  have hj' : j < D'.size := by simpa using hj
  have := h i j (Nat.zero_le _) hij (by omega)
  rw [ltOf_cmpS, getElem!_pos D' i hi', getElem!_pos D' j hj'] at this
  simpa using this
/-- slices.SortFunc at the list's row. -/
theorem LSt.sort {w wr : World} {v : Value} {D : List Ent} (h : LSt L w wr d a f ws n m P v D) (hL : ∀ b, L b → b < w.heap.size) (hlen : D.length ≤ 1000) :
    Calls Try.prog 37 #[v, .func (.func 38) #[] #[]] wr fun e w' => e = .returned (.tuple #[]) ∧ ∃ D', D'.Perm D ∧ Rise D' ∧ LSt L w w' d a f ws n m P v D' := by
  rcases h.own.2 with ⟨rfl, h0⟩ | ⟨g, cap, cur, rfl, hb, hh, _⟩
  · refine (AnyF.slices_SortFunc_none Try.sortEnt none 0 _ wr).mono ?_
    rintro e w' ⟨rfl, rfl⟩
    exact ⟨rfl, D, .refl _, by rw [List.length_eq_zero_iff.1 h0]; exact List.Pairwise.nil, h⟩
  · have hg : g < wr.heap.size := Blk.lt (show Blk wr g _ cur from hh)
    have hgL : ¬ L g := fun hl => by have := hL g hl; omega
    have hH := holdsE_of h.own
    refine (sort_calls g 0 cap D.toArray wr hH hg (by rw [List.size_toArray]; omega)).mono ?_
    rintro e w' ⟨rfl, D', n', os, hp, hs, rfl⟩
    obtain ⟨D', rfl⟩ : ∃ l : List Ent, D' = l.toArray := ⟨D'.toList, rfl⟩
    have hsz : D'.length = D.length := by simpa using hp.1
    have hperm : D'.Perm D := by
      have := hp.2.2
      have e1 : D'.toArray.extract 0 D.toArray.size = D'.toArray := by rw [← hp.1]; exact Array.extract_size
      have e2 : D.toArray.extract 0 D.toArray.size = D.toArray := Array.extract_size
      rw [e1, e2] at this
      simpa using this
    have hbd := h.ar.bd
    have hK := sorted_keeps (n := n') (D' := D') (os := os) hg (hbd.sub fun _ => .inl) hgL
    have hrise : Rise D' := rise_of (D' := D'.toArray) hp.1 hs
    refine ⟨rfl, D', hperm, hrise, ⟨⟨.inl h.ld, hK.blk h.dat.2.1 h.ld, h.dat.2.2⟩, ?_, ?_, h.keep.trans hK⟩⟩
    · refine h.ar.map fun _ q => q.move ?_ (fun b hb _ => ?_) (fun b hlt hn => ?_)
      · rw [← hsz]
        intro b hb
        rcases hb with hb | hb
        · exact Nat.lt_of_lt_of_le (hbd b (.inl hb)) hK.size
        · have : g = b := by simpa [Value.ownBlock] using hb
          subst this
          exact Nat.lt_of_lt_of_le hg hK.size
      · rcases hb with hb | hb
        · exact .inl hb
        · exact .inr hb
      · rw [sorted_heap hg b hlt, if_neg]
        rintro rfl
        exact hn (.inr rfl)
    · have := sorted_own (n := n') (os := os) h.own hsz
      rw [hsz] at this ⊢
      exact this
end
end Go.Proofs.Ytkbajjpdngfhbaa
