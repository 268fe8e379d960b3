
/- law6: both together. -/
import Derived.Test.YtokldnmhhhaalaaMdlL
import Derived.Test.YtokldnmhhhaalaaSpoil
import Derived.Test.YtokldnmhhhaalaaActs
namespace Go.Proofs.Ytokldnmhhhaalaa
open Go.RowKit
set_option maxHeartbeats 1000000

/-- Counts and model, the protected set. -/
structure RA (L : Nat → Prop) (w0 w : World) (x a n o : Nat) (B : Mb) (i : Int) (T : Int → Int → Int) (M : Md) : Prop where
  keeps : Below w0.heap.size w0 w
  low : ∀ b, b < w0.heap.size → L b
  mb : ∀ b, mbS B n b → L b ∧ b ≠ x ∧ w0.heap.size ≤ b
  rm : ∃ m : Nat, (m : Int) ≤ 1000 * i ∧ RM L w x a n m o B i T M
section
variable {L : Nat → Prop} {w0 w w' : World} {x a n o : Nat} {B : Mb} {i : Int} {T : Int → Int → Int} {M : Md}
theorem RS.below {m : Nat} {f o : Int} (h : RS L w x a f o n m T) (hb : Below w.heap.size w w') : RS L w' x a f o n m T :=
  ⟨⟨h.rc.1, (hb.block _ h.rc.2.1.lt).trans h.rc.2.1, h.rc.2.2⟩, by obtain ⟨ws, h1, h2⟩ := h.ar; exact ⟨ws, h1, h2.below hb⟩⟩
/-- A new row is protected too. -/
theorem RS.belowLo {m : Nat} {f o : Int} {v : Value} (h : RS L w x a f o n m T) (hb : Below w.heap.size w w') (hv : ∀ g, v.ownBlock = some g → w.heap.size ≤ g ∧ g < w'.heap.size) : RS (lo L v) w' x a f o n m T := by
  refine ⟨⟨.inl h.rc.1, (hb.block _ h.rc.2.1.lt).trans h.rc.2.1, h.rc.2.2⟩, ?_⟩
  obtain ⟨ws, h1, h2⟩ := h.ar
  refine ⟨ws, h1, h2.map fun _ h => h.move (fun b hbb => ?_) (fun b hbb hlt => ?_) (fun b hlt _ => hb.block b hlt)⟩
  · rcases hbb with hbb | hbb
    · exact Nat.lt_of_lt_of_le (h.bd b hbb) hb.size
    · exact (hv b hbb).2
  · rcases hbb with hbb | hbb
    · exact hbb
    · have := (hv b hbb).1; omega
theorem MdAt.keep (h : MdAt w B n o M) (hL : ∀ b, mbS B n b → L b) (hk : Keeps L w w') : MdAt w' B n o M := h.move fun b hb => hk.block b (hL b hb)
theorem RA.below (h : RA L w0 w x a n o B i T M) (hb : Below w.heap.size w w') : RA L w0 w' x a n o B i T M := by
  obtain ⟨m, hm, h1, h2, h3, h4⟩ := h.rm
  exact ⟨bel_then h.keeps hb, h.low, h.mb, m, hm, h1.below hb, h2, h3.below hb, h4⟩
theorem RA.drewN (h : RA L w0 w x a n o B i T M) (d : Nat) : RA L w0 (w.drewN d) x a n o B i T M := h.below (below_drewN' (Below.refl _ _) d)
theorem RA.belowLo {v : Value} (h : RA L w0 w x a n o B i T M) (hb : Below w.heap.size w w') (hv : ∀ g, v.ownBlock = some g → w.heap.size ≤ g ∧ g < w'.heap.size) : RA (lo L v) w0 w' x a n o B i T M := by
  obtain ⟨m, hm, h1, h2, h3, h4⟩ := h.rm
  exact ⟨bel_then h.keeps hb, fun b hb => .inl (h.low b hb), fun b hb => ⟨.inl (h.mb b hb).1, (h.mb b hb).2⟩, m, hm, h1.belowLo hb hv, h2, h3.below hb, h4⟩
/-- A call on the counts, the model's side done behind it. -/
theorem RA.step {w1 : World} {T' : Int → Int → Int} {M' : Md} {m : Nat} (h : RA L w0 w x a n o B i T M) (hK : Keeps L w w1) (hm : (m : Int) ≤ 1000 * (i + 1)) (hS : RS L w1 x a 0 o n m T') (hT : TOk T' n o (i + 1)) (hM : MS w1 w' B n o M') (hA : Agr T' M' n o) : RA L w0 w' x a n o B (i + 1) T' M' := by
  have hk2 : ∀ b, ¬ mbS B n b → w'.heap[b]? = w1.heap[b]? := fun b hb => hM.keeps.block b hb
  have hxn : ¬ mbS B n x := fun hx => (h.mb x hx).2.1 rfl
  refine ⟨(h.keeps.trans (hK.below h.low)).trans ⟨hM.keeps.os, hM.keeps.tape, hM.keeps.output, hM.keeps.size, fun b hb => ?_⟩, h.low, h.mb, m, hm, ⟨⟨hS.rc.1, (hk2 x hxn).trans hS.rc.2.1, hS.rc.2.2⟩, ?_⟩, hT, hM.at_, hA⟩
  · exact hk2 b fun hx => by have := (h.mb b hx).2.2; omega
  · obtain ⟨ws, h1, h2⟩ := hS.ar
    refine ⟨ws, h1, h2.map fun _ h3 => h3.move (fun b hb => by rw [hM.size]; exact h3.bd b hb) (fun _ hb _ => hb) (fun b _ hn => hk2 b fun hb => hn (h.mb b hb).1)⟩
theorem RA.mono {i' : Int} (h : RA L w0 w x a n o B i T M) (hi : i ≤ i') (h9 : i' ≤ 900) : RA L w0 w x a n o B i' T M := by
  obtain ⟨m, hm, h1, h2, h3, h4⟩ := h.rm
  exact ⟨h.keeps, h.low, h.mb, m, by omega, h1, h2.mono hi h9, h3, h4⟩
theorem RA.h7 (h : RA L w0 w x a n o B i T M) : w.cell? ⟨B.b, 7, none⟩ = some (.int .i64 M.ep) := by
  obtain ⟨m, hm, h1, h2, h3, h4⟩ := h.rm
  exact h3.c_ 7
theorem own_belowR {base : Nat} {e : TypeId} {size k : Nat} {v : Value} {xs : List Value} (h : w.ownsRow base e size v k xs) (hb : Below w.heap.size w w') : w'.ownsRow base e size v k xs := by
  refine ⟨h.1, ?_⟩
  rcases h.2 with h2 | ⟨g, cap, cur, hv, hg, hh, rest⟩
  · exact .inl h2
  · exact .inr ⟨g, cap, cur, hv, hg, by rw [hb.block g (lt_of_block hh)]; exact hh, rest⟩
theorem raEpoch (h : RA L w0 w x a n o B i T M) :
    Calls Try.prog 20 #[.pointer (some ⟨x, 0, none⟩)] w fun e w' => e = .returned (.int .i64 M.ep) ∧ ∃ d, w' = w.drewN d := by
  obtain ⟨m, hm, h1, h2, h3, h4⟩ := h.rm
  exact rsEpochV h1 h4.ep.symm
theorem raDead (h : RA L w0 w x a n o B i T M) :
    Calls Try.prog 23 #[.pointer (some ⟨x, 0, none⟩)] w fun e w' => ∃ v, e = .returned v ∧ w'.ownsRow w.heap.size 3 1 v (mdeads M o).length ((mdeads M o).map (Value.int .i64)) ∧ RA (lo L v) w0 w' x a n o B i T M ∧ Keeps L w w' := by
  obtain ⟨m, hm, h1, h2, h3, h4⟩ := h.rm
  refine (rsDead h1).mono ?_
  rintro e w' ⟨v, rfl, hown, hS, hK⟩
  have hd := h4.deads o (Nat.le_refl _)
  rw [show (o : Int).toNat = o from rfl, ← hd] at hown
  exact ⟨v, rfl, hown, ⟨h.keeps.trans (hK.below h.low), fun b hb => .inl (h.low b hb), fun b hb => ⟨.inl (h.mb b hb).1, (h.mb b hb).2⟩, m, hm, hS, h2, h3.keep (fun b hb => (h.mb b hb).1) hK, h4⟩, hK⟩
theorem raList (h : RA L w0 w x a n o B i T M) :
    Calls Try.prog 24 #[.pointer (some ⟨B.b, 0, none⟩)] w fun e w' => ∃ v, e = .returned v ∧ w'.ownsRow w.heap.size 3 1 v (mdeads M o).length ((mdeads M o).map (Value.int .i64)) ∧ RA (lo L v) w0 w' x a n o B i T M ∧ Below w.heap.size w w' := by
  obtain ⟨m, hm, h1, h2, h3, h4⟩ := h.rm
  have ho := h1.o_
  refine (mlist_calls h3 (by omega)).mono ?_
  rintro e w' ⟨v, rfl, hown, hB⟩
  exact ⟨v, rfl, hown, h.belowLo hB (fun g hg => ⟨own_ge8 hown hg, (hown.lt g hg).2⟩), hB⟩
theorem raCounts (h : RA L w0 w x a n o B i T M) :
    Calls Try.prog 25 #[.pointer (some ⟨x, 0, none⟩), .pointer (some ⟨B.b, 0, none⟩), .int .i64 n] w fun e w' => e = .returned (.bool true) ∧ ∃ d, w' = w.drewN d := by
  obtain ⟨m, hm, h1⟩ := h.rm
  exact counts_calls h1
theorem MdAt.ms (h : MdAt w B n o M) : MS w w B n o M := ⟨h, Keeps.refl _ _, rfl⟩
theorem raCore (h : RA L w0 w x a n o B i T M) (c : Int) (hc : c < 0 ∨ (n : Int) ≤ c) :
    (∀ j : Int, Calls Try.prog 15 #[.pointer (some ⟨x, 0, none⟩), .int .i64 c, .int .i64 j] w fun e w' => e = .returned (.int .i64 600) ∧ w = w') ∧
    (∀ j : Int, Calls Try.prog 14 #[.pointer (some ⟨x, 0, none⟩), .int .i64 c, .int .i64 j] w fun e w' => e = .returned (.int .i64 600) ∧ w = w') ∧
    Calls Try.prog 16 #[.pointer (some ⟨x, 0, none⟩), .int .i64 c] w fun e w' => e = .returned (.int .i64 600) ∧ w = w' := by
  obtain ⟨m, hm, h1, h2, h3, h4⟩ := h.rm
  exact ⟨fun j => rsInc_core h1 c j hc, fun j => rsDec_core h1 c j hc, rFlush_err h1 c hc⟩
theorem raObj (h : RA L w0 w x a n o B i T M) (c j : Int) (hc : 0 ≤ c ∧ c < n) (hj : j < 0 ∨ (o : Int) ≤ j) :
    (Calls Try.prog 15 #[.pointer (some ⟨x, 0, none⟩), .int .i64 c, .int .i64 j] w fun e w' => e = .returned (.int .i64 601) ∧ w = w') ∧
    (Calls Try.prog 14 #[.pointer (some ⟨x, 0, none⟩), .int .i64 c, .int .i64 j] w fun e w' => e = .returned (.int .i64 601) ∧ w = w') := by
  obtain ⟨m, hm, h1, h2, h3, h4⟩ := h.rm
  exact ⟨rsInc_obj h1 c j hc hj, rsDec_obj h1 c j hc hj⟩
theorem raInc (h : RA L w0 w x a n o B i T M) (hi : i < 900) {c j : Nat} (hc : c < n) (hj : j < o) :
    Calls Try.prog 15 #[.pointer (some ⟨x, 0, none⟩), .int .i64 c, .int .i64 j] w fun e w1 => e = .returned (.int .i64 0) ∧ MS w1 w1 B n o M ∧ Keeps L w w1 ∧ (-100000 ≤ M.parts c j ∧ M.parts c j ≤ 100000) ∧
      ∃ T', ∀ w', MS w1 w' B n o { M with parts := updP M.parts c j (M.parts c j + 1), ever := updN M.ever j true } → RA L w0 w' x a n o B (i + 1) T' { M with parts := updP M.parts c j (M.parts c j + 1), ever := updN M.ever j true } := by
  obtain ⟨m, hm, h1, h2, h3, h4⟩ := h.rm
  have hb := h2.part c j (by omega) (by omega) (by omega) (by omega)
  have hi0 := h2.i0
  refine (rsInc h1 (by omega) h2 c j ⟨by omega, by omega⟩ ⟨by omega, by omega⟩).mono ?_
  rintro e w1 ⟨rfl, hS, hK⟩
  have ep := h4.part c j hc hj
  refine ⟨rfl, (h3.keep (fun b hb => (h.mb b hb).1) hK).ms, hK, by omega, _, fun w' hM => h.step hK (m := m + 3) (by omega) hS (h2.count hi h1.o_ ⟨by omega, by omega⟩ ⟨by omega, by omega⟩ (.inl rfl)) hM ?_⟩
  rw [← ep]
  exact h4.count hc hj
theorem raDec (h : RA L w0 w x a n o B i T M) (hi : i < 900) {c j : Nat} (hc : c < n) (hj : j < o) :
    Calls Try.prog 14 #[.pointer (some ⟨x, 0, none⟩), .int .i64 c, .int .i64 j] w fun e w1 => e = .returned (.int .i64 0) ∧ MS w1 w1 B n o M ∧ Keeps L w w1 ∧ (-100000 ≤ M.parts c j ∧ M.parts c j ≤ 100000) ∧
      ∃ T', ∀ w', MS w1 w' B n o { M with parts := updP M.parts c j (M.parts c j - 1), ever := updN M.ever j true } → RA L w0 w' x a n o B (i + 1) T' { M with parts := updP M.parts c j (M.parts c j - 1), ever := updN M.ever j true } := by
  obtain ⟨m, hm, h1, h2, h3, h4⟩ := h.rm
  have hb := h2.part c j (by omega) (by omega) (by omega) (by omega)
  have hi0 := h2.i0
  refine (rsDec h1 (by omega) h2 c j ⟨by omega, by omega⟩ ⟨by omega, by omega⟩).mono ?_
  rintro e w1 ⟨rfl, hS, hK⟩
  have ep := h4.part c j hc hj
  refine ⟨rfl, (h3.keep (fun b hb => (h.mb b hb).1) hK).ms, hK, by omega, _, fun w' hM => h.step hK (m := m + 3) (by omega) hS (h2.count hi h1.o_ ⟨by omega, by omega⟩ ⟨by omega, by omega⟩ (.inr rfl)) hM ?_⟩
  rw [← ep]
  exact h4.count hc hj
theorem raFlush (h : RA L w0 w x a n o B i T M) (hi : i < 900) {c : Nat} (hc : c < n) :
    Calls Try.prog 16 #[.pointer (some ⟨x, 0, none⟩), .int .i64 c] w fun e w1 => e = .returned (.int .i64 0) ∧ MS w1 w1 B n o M ∧ Keeps L w w1 ∧
      ∃ T', ∀ w' M', mFl M M' c n o → MS w1 w' B n o M' → RA L w0 w' x a n o B (i + 1) T' M' := by
  obtain ⟨m, hm, h1, h2, h3, h4⟩ := h.rm
  have hi0 := h2.i0
  refine (rsFlush h1 (by omega) h2 c ⟨by omega, by omega⟩).mono ?_
  rintro e w1 ⟨rfl, hS, hK⟩
  exact ⟨rfl, (h3.keep (fun b hb => (h.mb b hb).1) hK).ms, hK, _, fun w' M' hF hM => h.step hK (m := m + 1000) (by omega) hS (h2.flush hi ⟨by omega, by omega⟩) hM (h4.flush hc hF)⟩
theorem RA.mlt (h : RA L w0 w x a n o B i T M) {b : Nat} (hb : mbS B n b) : b < w.heap.size := by
  obtain ⟨m, hm, h1, h2, h3, h4⟩ := h.rm
  rcases hb with rfl | rfl | rfl | rfl | rfl | rfl | rfl | rfl | ⟨c, hc, rfl⟩
  · exact h3.hd.lt
  · exact h3.pa.lt
  · exact Blk.lt h3.gl
  · exact Blk.lt h3.mfl
  · exact Blk.lt h3.madded
  · exact Blk.lt h3.mzero
  · exact Blk.lt h3.mever
  · exact Blk.lt h3.mdead
  · exact Blk.lt (h3.rw c hc)
theorem RA.bd (h : RA L w0 w x a n o B i T M) {c : Nat} (hc : c < n) : (n ≤ 8 ∧ o ≤ 60) ∧ (∀ j, j < o → -1000000 ≤ M.glob j + M.parts c j ∧ M.glob j + M.parts c j ≤ 1000000) ∧ 0 ≤ M.ep ∧ M.ep ≤ 1000000 := by
  obtain ⟨m, hm, h1, h2, h3, h4⟩ := h.rm
  have hi0 := h2.i0
  have hn := h1.n_
  have ho := h1.o_
  refine ⟨⟨hn.2, by omega⟩, fun j hj => ?_, ?_⟩
  · have e1 := h2.part c j (by omega) (by omega) (by omega) (by omega)
    have e2 := h2.glob j (by omega) (by omega)
    have e3 := h4.part c j hc hj
    have e4 := h4.glob j hj
    omega
  · have e1 := h2.ep
    have e2 := h4.ep
    omega
end
end Go.Proofs.Ytokldnmhhhaalaa
