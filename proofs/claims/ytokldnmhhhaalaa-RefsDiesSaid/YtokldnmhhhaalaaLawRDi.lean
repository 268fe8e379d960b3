
/- RefsDies: the walk. -/
import Derived.Test.YtokldnmhhhaalaaLawREp
import Derived.Test.YtokldnmhhhaalaaSpoil
namespace Go.Proofs.Ytokldnmhhhaalaa
open Go.RowKit
set_option maxHeartbeats 1000000

/-- The cells of two cores and two objects. -/
structure C22 (T : Int → Int → Int) (p00 p01 p10 p11 g0 g1 f0 f1 e k0 k1 : Int) : Prop where
  a00 : T 0 0 = p00
  a01 : T 0 1 = p01
  a10 : T 1 0 = p10
  a11 : T 1 1 = p11
  b0 : T 2 0 = g0
  b1 : T 2 1 = g1
  c0 : T 0 2 = f0
  c1 : T 1 2 = f1
  d : T 2 2 = e
  e0 : T 3 0 = k0
  e1 : T 3 1 = k1
def kfun (p k : Int) : Int := if p = 0 then k else add2 k

section
variable {T : Int → Int → Int} {p00 p01 p10 p11 g0 g1 f0 f1 e k0 k1 : Int}
theorem C22.f0n (h : C22 T p00 p01 p10 p11 g0 g1 f0 0 e k0 k1) : C22 (flushT T 2 2 0) 0 0 p10 p11 (g0 + p00) (g1 + p01) 1 0 e (kfun p00 k0) (kfun p01 k1) := by
  obtain ⟨h1, h2, h3, h4, h5, h6, h7, h8, h9, h10, h11⟩ := h
  have hu : upB T 2 0 2 = false := by simp [upB, h8]
  constructor <;> simp [flushT, knF, kfun, *]
theorem C22.f1n (h : C22 T p00 p01 p10 p11 g0 g1 0 f1 e k0 k1) : C22 (flushT T 2 2 1) p00 p01 0 0 (g0 + p10) (g1 + p11) 0 1 e (kfun p10 k0) (kfun p11 k1) := by
  obtain ⟨h1, h2, h3, h4, h5, h6, h7, h8, h9, h10, h11⟩ := h
  have hu : upB T 2 1 2 = false := by simp [upB, h7]
  constructor <;> simp [flushT, knF, kfun, *]
theorem C22.f1y (h : C22 T p00 p01 p10 p11 g0 g1 1 f1 e k0 k1) (hv : bitOf (T 0 3) 0 = true) : C22 (flushT T 2 2 1) p00 p01 0 0 (g0 + p10) (g1 + p11) 0 0 (e + 1) (nextK (g0 + p10) (kfun p10 k0) true) (nextK (g1 + p11) (kfun p11 k1) (bitOf (cntO T 2 2) 1)) := by
  obtain ⟨h1, h2, h3, h4, h5, h6, h7, h8, h9, h10, h11⟩ := h
  have hu : upB T 2 1 2 = true := by simp [upB, h7]
  have hb : bitOf (cntO T 2 2) 0 = true := by
    show bitOf (orI (orI 0 (T 0 3)) (T 1 3)) 0 = true
    simp [bitOf_orI, hv]
  constructor <;> simp [flushT, knF, kfun, *]
theorem C22.f0y (h : C22 T p00 p01 p10 p11 g0 g1 f0 1 e k0 k1) (hv : bitOf (T 0 3) 0 = true) : C22 (flushT T 2 2 0) 0 0 p10 p11 (g0 + p00) (g1 + p01) 0 0 (e + 1) (nextK (g0 + p00) (kfun p00 k0) true) (nextK (g1 + p01) (kfun p01 k1) (bitOf (cntO T 2 2) 1)) := by
  obtain ⟨h1, h2, h3, h4, h5, h6, h7, h8, h9, h10, h11⟩ := h
  have hu : upB T 2 0 2 = true := by simp [upB, h8]
  have hb : bitOf (cntO T 2 2) 0 = true := by
    show bitOf (orI (orI 0 (T 0 3)) (T 1 3)) 0 = true
    simp [bitOf_orI, hv]
  constructor <;> simp [flushT, knF, kfun, *]
theorem C22.count (h : C22 T p00 p01 p10 p11 g0 g1 f0 f1 e k0 k1) (c j v : Int) (hc : c = 0 ∨ c = 1) (hj : j = 0 ∨ j = 1) : C22 (cntT T 2 c j v) (if c = 0 ∧ j = 0 then v else p00) (if c = 0 ∧ j = 1 then v else p01) (if c = 1 ∧ j = 0 then v else p10) (if c = 1 ∧ j = 1 then v else p11) g0 g1 f0 f1 e k0 k1 := by
  obtain ⟨h1, h2, h3, h4, h5, h6, h7, h8, h9, h10, h11⟩ := h
  rcases hc with rfl | rfl <;> rcases hj with rfl | rfl <;> constructor <;> simp [cntT, upd2, *]
end
theorem ever_count {T : Int → Int → Int} {c j v : Int} (h : bitOf (T 0 3) 0 = true ∨ (c = 0 ∧ j = 0)) : bitOf (cntT T 2 c j v 0 3) 0 = true := by
  simp only [cntT, upd2]
  by_cases e : (0 : Int) = c ∧ (3 : Int) = 2 + 1
  · rw [if_pos e, bitOf_orI]
    obtain ⟨e, _⟩ := e
    rcases h with h | ⟨h1, h2⟩
    · rw [← e]; simp [h]
    · subst h2; simp [bitOf]
  · rw [if_neg e, if_neg (by omega)]
    rcases h with h | ⟨h1, h2⟩
    · exact h
    · exact absurd ⟨h1.symm, rfl⟩ e
theorem ever_flush {T : Int → Int → Int} {c : Int} (h : bitOf (T 0 3) 0 = true) : bitOf (flushT T 2 2 c 0 3) 0 = true := by
  simp only [flushT]
  rw [if_neg (by omega), if_neg (by omega)]
  exact h

/-- The walk's state. -/
structure S22 (L : Nat → Prop) (w1 wr : World) (x a m : Nat) (i : Int) (ev : Bool) (p00 p01 p10 p11 g0 g1 f0 f1 e k0 k1 : Int) : Prop where
  keeps : Below w1.heap.size w1 wr
  low : ∀ b, b < w1.heap.size → L b
  t : ∃ T, RS L wr x a 0 2 2 m T ∧ TOk T 2 2 i ∧ C22 T p00 p01 p10 p11 g0 g1 f0 f1 e k0 k1 ∧ (ev = true → bitOf (T 0 3) 0 = true)

section
variable {L : Nat → Prop} {w1 w : World} {x a m : Nat} {i : Int} {ev : Bool} {p00 p01 p10 p11 g0 g1 f0 f1 e k0 k1 : Int}
theorem s22Inc (h : S22 L w1 w x a m i ev p00 p01 p10 p11 g0 g1 f0 f1 e k0 k1) (hm : m ≤ 1099511500000) (hi : i < 900) (c j : Int) (hc : c = 0 ∨ c = 1) (hj : j = 0 ∨ j = 1) (ev' : Bool) (hev : ev' = true → ev = true ∨ (c = 0 ∧ j = 0)) {v : Int} (hv : v = (if c = 0 then (if j = 0 then p00 else p01) else if j = 0 then p10 else p11) + 1) :
    Calls Try.prog 15 #[.pointer (some ⟨x, 0, none⟩), .int .i64 c, .int .i64 j] w fun e' w' => e' = .returned (.int .i64 0) ∧ S22 L w1 w' x a (m + 1000) (i + 1) ev' (if c = 0 ∧ j = 0 then v else p00) (if c = 0 ∧ j = 1 then v else p01) (if c = 1 ∧ j = 0 then v else p10) (if c = 1 ∧ j = 1 then v else p11) g0 g1 f0 f1 e k0 k1 := by
  obtain ⟨T, hS, hT, hC, hE⟩ := h.t
  have hvT : T c j + 1 = v := by
    rw [hv]
    rcases hc with rfl | rfl <;> rcases hj with rfl | rfl <;> simp [hC.a00, hC.a01, hC.a10, hC.a11]
  refine (rsInc hS (by omega) hT c j (by omega) (by omega)).mono ?_
  rintro e' w' ⟨rfl, hS', hK⟩
  rw [hvT] at hS'
  have hT' := hT.count hi (by omega) (c := c) (j := j) (b := 1) (by omega) (by omega) (.inl rfl)
  rw [hvT] at hT'
  exact ⟨rfl, h.keeps.trans (hK.below h.low), h.low, _, hS'.mono (by omega), hT', hC.count c j v hc hj, fun h' => ever_count ((hev h').imp hE id)⟩
theorem s22Dec (h : S22 L w1 w x a m i ev p00 p01 p10 p11 g0 g1 f0 f1 e k0 k1) (hm : m ≤ 1099511500000) (hi : i < 900) :
    Calls Try.prog 14 #[.pointer (some ⟨x, 0, none⟩), .int .i64 1, .int .i64 0] w fun e' w' => e' = .returned (.int .i64 0) ∧ S22 L w1 w' x a (m + 1000) (i + 1) ev p00 p01 (p10 + -1) p11 g0 g1 f0 f1 e k0 k1 := by
  obtain ⟨T, hS, hT, hC, hE⟩ := h.t
  refine (rsDec hS (by omega) hT 1 0 (by omega) (by omega)).mono ?_
  rintro e' w' ⟨rfl, hS', hK⟩
  have hT' := hT.count hi (by omega) (c := 1) (j := 0) (b := -1) (by omega) (by omega) (.inr rfl)
  rw [hC.a10] at hS' hT'
  exact ⟨rfl, h.keeps.trans (hK.below h.low), h.low, _, hS'.mono (by omega), hT', by have := hC.count 1 0 (p10 + -1) (by omega) (by omega); simpa using this, fun h' => ever_count (.inl (hE h'))⟩
theorem s22Flush {q00 q01 q10 q11 h0 h1 r0 r1 e2 l0 l1 : Int} (h : S22 L w1 w x a m i ev p00 p01 p10 p11 g0 g1 f0 f1 e k0 k1) (hm : m ≤ 1099511400000) (hi : i < 900) (c : Int) (hc : c = 0 ∨ c = 1)
    (hcc : ∀ T, C22 T p00 p01 p10 p11 g0 g1 f0 f1 e k0 k1 → (ev = true → bitOf (T 0 3) 0 = true) → C22 (flushT T 2 2 c) q00 q01 q10 q11 h0 h1 r0 r1 e2 l0 l1) :
    Calls Try.prog 16 #[.pointer (some ⟨x, 0, none⟩), .int .i64 c] w fun e' w' => e' = .returned (.int .i64 0) ∧ S22 L w1 w' x a (m + 1000) (i + 1) ev q00 q01 q10 q11 h0 h1 r0 r1 e2 l0 l1 := by
  obtain ⟨T, hS, hT, hC, hE⟩ := h.t
  refine (rsFlush hS (by omega) hT c (by omega)).mono ?_
  rintro e' w' ⟨rfl, hS', hK⟩
  exact ⟨rfl, h.keeps.trans (hK.below h.low), h.low, _, hS', hT.flush hi (by omega), hcc T hC hE, fun h' => ever_flush (hE h')⟩
theorem s22Epoch (h : S22 L w1 w x a m i ev p00 p01 p10 p11 g0 g1 f0 f1 e k0 k1) :
    Calls Try.prog 20 #[.pointer (some ⟨x, 0, none⟩)] w fun e' w' => e' = .returned (.int .i64 e) ∧ ∃ d, w' = w.drewN d := by
  obtain ⟨T, hS, hT, hC, hE⟩ := h.t
  exact rsEpochV hS hC.d
theorem dead22 {T : Int → Int → Int} (hC : C22 T p00 p01 p10 p11 g0 g1 f0 f1 e k0 k1) (h1 : k1 / 4 % 2 = 0) : deads T 2 (2 : Int).toNat = if k0 / 4 % 2 = 0 then [] else [0] := by
  show deads T 2 2 = _
  simp [deads, hC.e0, hC.e1, h1]
theorem s22Dead (h : S22 L w1 w x a m i ev p00 p01 p10 p11 g0 g1 f0 f1 e k0 k1) (h1 : k1 / 4 % 2 = 0) {ds : List Int} (hd : (if k0 / 4 % 2 = 0 then [] else [0]) = ds) :
    Calls Try.prog 23 #[.pointer (some ⟨x, 0, none⟩)] w fun e' w' => ∃ A cap, e' = .returned (.slice A ds.length cap) ∧ Sl w' 1 (.slice A ds.length cap) ds.length (ds.map (Value.int .i64)) ∧ S22 L w1 w' x a m i ev p00 p01 p10 p11 g0 g1 f0 f1 e k0 k1 := by
  obtain ⟨T, hS, hT, hC, hE⟩ := h.t
  have hx := hS.lx
  refine (rsDead hS).mono ?_
  rintro e' w' ⟨v, rfl, hown, hS', hK⟩
  rw [dead22 hC h1, hd] at hown
  have hs := Sl.ofOwn hown
  have hform : ∃ A cap, v = .slice A ds.length cap := by
    rcases hown.2 with ⟨rfl, h0⟩ | ⟨g', cap, cur, rfl, _⟩
    · exact ⟨none, 0, by rw [h0]⟩
    · exact ⟨_, cap, rfl⟩
  obtain ⟨A, cap, rfl⟩ := hform
  exact ⟨A, cap, rfl, hs, h.keeps.trans (hK.below h.low), h.low, T, hS'.sub (fun _ h => .inl h) hx, hT, hC, hE⟩
theorem S22.drewN (h : S22 L w1 w x a m i ev p00 p01 p10 p11 g0 g1 f0 f1 e k0 k1) (d : Nat) : S22 L w1 (w.drewN d) x a m i ev p00 p01 p10 p11 g0 g1 f0 f1 e k0 k1 := by
  obtain ⟨T, hS, hT, hC, hE⟩ := h.t
  exact ⟨below_drewN' h.keeps _, h.low, T, hS.drewN d, hT, hC, hE⟩
theorem S22.eq {p00' p01' p10' p11' g0' g1' f0' f1' e' k0' k1' : Int} {m' : Nat} {i' : Int} (h : S22 L w1 w x a m i ev p00 p01 p10 p11 g0 g1 f0 f1 e k0 k1) (h1 : p00 = p00') (h2 : p01 = p01') (h3 : p10 = p10') (h4 : p11 = p11') (h5 : g0 = g0') (h6 : g1 = g1') (h7 : f0 = f0') (h8 : f1 = f1') (h9 : e = e') (h10 : k0 = k0') (h11 : k1 = k1') (hm : m ≤ m') (hi : i ≤ i') (hi9 : i' ≤ 900) : S22 L w1 w x a m' i' ev p00' p01' p10' p11' g0' g1' f0' f1' e' k0' k1' := by
  subst h1 h2 h3 h4 h5 h6 h7 h8 h9 h10 h11
  obtain ⟨T, hS, hT, hC, hE⟩ := h.t
  exact ⟨h.keeps, h.low, T, hS.mono hm, hT.mono hi hi9, hC, hE⟩
end
end Go.Proofs.Ytokldnmhhhaalaa
