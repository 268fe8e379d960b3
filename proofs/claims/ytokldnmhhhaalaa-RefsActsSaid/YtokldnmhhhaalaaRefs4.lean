
/- refs: the state, cell by cell; end. -/
import Derived.Test.YtokldnmhhhaalaaRefs3
namespace Go.Proofs.Ytokldnmhhhaalaa
open Go.RowKit
set_option maxHeartbeats 1000000

section
variable {L : Nat → Prop} {w : World} {a x : Nat} {n m : Nat} {f o : Int} {T : Int → Int → Int}

theorem Mx.congr {ws : List Int} {T2 : Int → Int → Int} (h : Mx ws f n o T) (he : ∀ r i, 0 ≤ r → r ≤ (n : Int) + 1 → 0 ≤ i → i ≤ o + 1 → T r i = T2 r i) : Mx ws f n o T2 :=
  ⟨h.f0, h.o0, h.n0, h.len, fun r i r0 r1 i0 i1 => (h.at_ r i r0 r1 i0 i1).trans (he r i r0 r1 i0 i1)⟩

/-- Counts in an arena, all their words. -/
structure RS (L : Nat → Prop) (w : World) (x a : Nat) (f o : Int) (n m : Nat) (T : Int → Int → Int) : Prop where
  rc : RcAt L w x a f o
  ar : ∃ ws, Mx ws f n o T ∧ ArP L w a ws n m fun _ => True
theorem RS.mono {m' : Nat} (h : RS L w x a f o n m T) (hm : m ≤ m') : RS L w x a f o n m' T := ⟨h.rc, by obtain ⟨ws, h1, h2⟩ := h.ar; exact ⟨ws, h1, h2.mono hm⟩⟩
theorem RS.drewN (h : RS L w x a f o n m T) (d : Nat) : RS L (w.drewN d) x a f o n m T := ⟨⟨h.rc.1, h.rc.2.1, h.rc.2.2⟩, by obtain ⟨ws, h1, h2⟩ := h.ar; exact ⟨ws, h1, h2.drewN d⟩⟩
theorem RS.congr {T2 : Int → Int → Int} (h : RS L w x a f o n m T) (he : ∀ r i, 0 ≤ r → r ≤ (n : Int) + 1 → 0 ≤ i → i ≤ o + 1 → T r i = T2 r i) : RS L w x a f o n m T2 :=
  ⟨h.rc, by obtain ⟨ws, h1, h2⟩ := h.ar; exact ⟨ws, h1.congr he, h2⟩⟩
theorem RS.n_ (h : RS L w x a f o n m T) : 1 ≤ n ∧ n ≤ 8 := by obtain ⟨ws, h1, _⟩ := h.ar; exact h1.n0
theorem RS.o_ (h : RS L w x a f o n m T) : 1 ≤ o ∧ o ≤ 60 := h.rc.2.2.2
theorem RS.q0 (h : RS L w x a f o n m T) : w.cell? ⟨x, 0, none⟩ = some (.pointer (some ⟨a, 0, none⟩)) := h.rc.2.1.cell 0
theorem RS.q2 (h : RS L w x a f o n m T) : w.cell? ⟨x, 2, none⟩ = some (.int .i64 o) := h.rc.2.1.cell 2
theorem RS.lx (h : RS L w x a f o n m T) : L x := h.rc.1
theorem RS.keep {w' : World} {m' : Nat} {T2 : Int → Int → Int} (h : RS L w x a f o n m T) (hk : Keeps L w w') (ha : ∃ ws, Mx ws f n o T2 ∧ ArP L w' a ws n m' fun _ => True) : RS L w' x a f o n m' T2 := ⟨h.rc.keep hk, ha⟩

/-- A word's place. -/
structure Pl (f o : Int) (n : Nat) (r i at_ : Int) : Prop where
  r0 : 0 ≤ r
  r1 : r ≤ (n : Int) + 1
  i0 : 0 ≤ i
  i1 : i ≤ o + 1
  eq : f + r * (o + 2) + i = at_

theorem rsLoad (h : RS L w x a f o n m T) (hm : m ≤ 1099511627770) {c r i at_ v : Int} (hc : 0 ≤ c ∧ c < n) (hp : Pl f o n r i at_) (hv : T r i = v) :
    Calls Try.prog 44 #[.pointer (some ⟨a, 0, none⟩), .int .i64 c, .int .i64 at_] w fun e w' => e = .returned (.tuple #[.int .i64 v, .int .i64 0]) ∧ RS L w' x a f o n (m + 1) T ∧ Keeps L w w' := by
  obtain ⟨ws, hM, hA⟩ := h.ar
  obtain ⟨r0, r1, i0, i1, rfl⟩ := hp
  subst hv
  refine (load_p hA (by omega) hc (hM.in_ r0 r1 i0 i1) (hM.at_ r i r0 r1 i0 i1) (Cl.true_ _ _ (fun _ => True)) trivial).mono ?_
  rintro e w' ⟨rfl, hA', hK⟩
  exact ⟨rfl, h.keep hK ⟨ws, hM, hA'⟩, hK⟩
theorem rsStore (h : RS L w x a f o n m T) (hm : m ≤ 1099511627770) {c r i at_ : Int} (v : Int) (hc : 0 ≤ c ∧ c < n) (hp : Pl f o n r i at_) :
    Calls Try.prog 46 #[.pointer (some ⟨a, 0, none⟩), .int .i64 c, .int .i64 at_, .int .i64 v] w fun e w' => e = .returned (.int .i64 0) ∧ RS L w' x a f o n (m + 1) (upd2 T r i v) ∧ Keeps L w w' := by
  obtain ⟨ws, hM, hA⟩ := h.ar
  obtain ⟨r0, r1, i0, i1, rfl⟩ := hp
  refine (store_p hA (by omega) hc (hM.in_ r0 r1 i0 i1) rfl (Cl.true_ _ _ (fun _ => True)) trivial).mono ?_
  rintro e w' ⟨rfl, hA', hK⟩
  exact ⟨rfl, h.keep hK ⟨_, hM.set r0 r1 i0 i1 v, hA'⟩, hK⟩
theorem rsAdd (h : RS L w x a f o n m T) (hm : m ≤ 1099511627770) {c r i at_ b v : Int} (hc : 0 ≤ c ∧ c < n) (hp : Pl f o n r i at_) (hv : wrap64 (T r i + b) = v) :
    Calls Try.prog 47 #[.pointer (some ⟨a, 0, none⟩), .int .i64 c, .int .i64 at_, .int .i64 b] w fun e w' => e = .returned (.tuple #[.int .i64 v, .int .i64 0]) ∧ RS L w' x a f o n (m + 1) (upd2 T r i v) ∧ Keeps L w w' := by
  obtain ⟨ws, hM, hA⟩ := h.ar
  obtain ⟨r0, r1, i0, i1, rfl⟩ := hp
  refine (add_p hA (by omega) hc (hM.in_ r0 r1 i0 i1) (r := v) (by rw [hM.at_ r i r0 r1 i0 i1]; exact hv) rfl (Cl.true_ _ _ (fun _ => True)) trivial).mono ?_
  rintro e w' ⟨rfl, hA', hK⟩
  exact ⟨rfl, h.keep hK ⟨_, hM.set r0 r1 i0 i1 v, hA'⟩, hK⟩
theorem rsPeek (h : RS L w x a f o n m T) {r i at_ v : Int} (hp : Pl f o n r i at_) (hv : T r i = v) :
    Calls Try.prog 51 #[.pointer (some ⟨a, 0, none⟩), .int .i64 at_] w fun e w' => e = .returned (.int .i64 v) ∧ ∃ d, w' = w.drewN d := by
  obtain ⟨ws, hM, hA⟩ := h.ar
  obtain ⟨r0, r1, i0, i1, rfl⟩ := hp
  exact peek_p hA (hM.in_ r0 r1 i0 i1) ((hM.at_ r i r0 r1 i0 i1).trans hv)
theorem rsCores (h : RS L w x a f o n m T) : Calls Try.prog 40 #[.pointer (some ⟨a, 0, none⟩)] w fun e w' => e = .returned (.int .i64 n) ∧ w = w' := by
  obtain ⟨ws, hM, hA⟩ := h.ar
  exact cores_p hA
theorem rsRow (h : RS L w x a f o n m T) {c b : Int} (hc : 0 ≤ c ∧ c ≤ 9) (hb : f + c * (o + 2) = b) :
    Calls Try.prog 45 #[.pointer (some ⟨x, 0, none⟩), .int .i64 c] w fun e w' => e = .returned (.int .i64 b) ∧ ∃ d, w' = w.drewN d := by
  subst hb
  exact rrow_calls h.rc c hc
theorem rsGlobal (h : RS L w x a f o n m T) {j b : Int} (hj : 0 ≤ j ∧ j < o) (hb : f + (n : Int) * (o + 2) = b) :
    Calls Try.prog 48 #[.pointer (some ⟨x, 0, none⟩), .int .i64 j] w fun e w' => e = .returned (.int .i64 (b + j)) ∧ ∃ d, w' = w.drewN d := by
  subst hb
  obtain ⟨ws, hM, hA⟩ := h.ar
  exact rglobal_calls h.rc hA j hj
theorem rsKnown (h : RS L w x a f o n m T) {j b : Int} (hj : 0 ≤ j ∧ j < o) (hb : f + ((n : Int) + 1) * (o + 2) = b) :
    Calls Try.prog 49 #[.pointer (some ⟨x, 0, none⟩), .int .i64 j] w fun e w' => e = .returned (.int .i64 (b + j)) ∧ ∃ d, w' = w.drewN d := by
  subst hb
  obtain ⟨ws, hM, hA⟩ := h.ar
  exact rknown_calls h.rc hA j hj
theorem rsEpoch (h : RS L w x a f o n m T) {b : Int} (hb : f + (n : Int) * (o + 2) = b) :
    Calls Try.prog 52 #[.pointer (some ⟨x, 0, none⟩)] w fun e w' => e = .returned (.int .i64 (b + o)) ∧ ∃ d, w' = w.drewN d := by
  subst hb
  obtain ⟨ws, hM, hA⟩ := h.ar
  exact repoch_calls h.rc hA
/-- A row's base, and what it bounds. -/
theorem RS.base (h : RS L w x a f o n m T) {r : Int} (r0 : 0 ≤ r) (r1 : r ≤ (n : Int) + 1) : 0 ≤ f + r * (o + 2) ∧ f + r * (o + 2) + (o + 2) ≤ 65536 := by
  obtain ⟨ws, hM, hA⟩ := h.ar
  have h1 := hM.in_ r0 r1 (i := 0) (by omega) (by have := hM.o0; omega)
  have h2 := hM.in_ r0 r1 (i := o + 1) (by have := hM.o0; omega) (by omega)
  have := hA.wsl
  omega
end
/-- What cores have counted, put together. -/
def cntO (T : Int → Int → Int) (o : Int) : Nat → Int
  | 0 => 0
  | k + 1 => orI (cntO T o k) (T k (o + 1))
theorem cntO_W62 {T : Int → Int → Int} {o : Int} {k : Nat} (h : ∀ r : Nat, r < k → W62 (T r (o + 1))) : W62 (cntO T o k) := by
  induction k with
  | zero => unfold W62 cntO; omega
  | succ k ih => exact orI_W62 (ih fun r hr => h r (by omega)) (h k (by omega))
/-- What is known of an object behind an epoch. -/
def nextK (g kn : Int) (b : Bool) : Int := if g = 0 then (if kn % 2 = 1 ∧ kn / 2 % 2 = 0 ∧ b = true then 5 else kn / 4 % 2 * 4 + 1) else kn / 4 % 2 * 4
/-- The table in the midst of an epoch's end: k flags put down, z objects seen. -/
def endK (T : Int → Int → Int) (n : Nat) (o : Int) (k z : Nat) : Int → Int → Int := fun r i =>
  if i = o ∧ r < k then 0 else if r = (n : Int) + 1 ∧ i < z then nextK (T n i) (T ((n : Int) + 1) i) (bitOf (cntO T o n) i.toNat) else T r i
def endT (T : Int → Int → Int) (n : Nat) (o : Int) : Int → Int → Int := upd2 (endK T n o n o.toNat) n o (T n o + 1)
theorem endK_zero (T : Int → Int → Int) (n : Nat) (o r i : Int) (hr : 0 ≤ r) (hi : 0 ≤ i) : T r i = endK T n o 0 0 r i := by
  unfold endK
  rw [if_neg (by omega), if_neg (by omega)]
theorem endK_flag {T : Int → Int → Int} {n : Nat} {o : Int} {k : Nat} (r i : Int) (hi : 0 ≤ i) : upd2 (endK T n o k 0) k o 0 r i = endK T n o (k + 1) 0 r i := by
  simp only [upd2, endK]
  by_cases e : r = k ∧ i = o
  · rw [if_pos e, if_pos (by omega)]
  · rw [if_neg e]
    by_cases e1 : i = o ∧ r < k
    · rw [if_pos e1, if_pos (by omega)]
    · rw [if_neg e1, if_neg (by omega), if_neg (by omega)]
      try rw [if_neg (by omega)]
theorem endK_known {T : Int → Int → Int} {n : Nat} {o : Int} {z : Nat} (hz : (z : Int) < o) (r i : Int) : upd2 (endK T n o n z) ((n : Int) + 1) z (nextK (T n z) (T ((n : Int) + 1) z) (bitOf (cntO T o n) z)) r i = endK T n o n (z + 1) r i := by
  simp only [upd2, endK]
  by_cases e : r = (n : Int) + 1 ∧ i = z
  · obtain ⟨rfl, rfl⟩ := e
    rw [if_pos ⟨rfl, rfl⟩, if_neg (by omega), if_pos (by omega), Int.toNat_natCast]
  · rw [if_neg e]
    by_cases e1 : i = o ∧ r < n
    · rw [if_pos e1, if_pos e1]
    · rw [if_neg e1, if_neg e1]
      by_cases e2 : r = (n : Int) + 1 ∧ i < z
      · rw [if_pos e2, if_pos (by omega)]
      · rw [if_neg e2, if_neg (by omega)]
end Go.Proofs.Ytokldnmhhhaalaa
