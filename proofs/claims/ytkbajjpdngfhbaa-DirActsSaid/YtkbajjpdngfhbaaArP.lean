
/- The arena with what is asked of its traces as a predicate. -/
import Derived.Test.YtkbajjpdngfhbaaArTo
import Derived.Test.YtkbajjpdngfhbaaBits
import Derived.Deep.RegionHeld3
namespace Go.Proofs.Ytkbajjpdngfhbaa
open Go.RowKit
set_option maxHeartbeats 400000

theorem bel_then {w w1 w2 : World} (h : Below w.heap.size w w1) (k : Below w1.heap.size w1 w2) : Below w.heap.size w w2 := h.trans (k.mono h.size)
theorem rd_wr_same {ws : List Int} {i v : Int} (h0 : 0 ≤ i) (h1 : i < ws.length) : rd (wr ws i v) i = v := by
  unfold rd wr
  simp [List.getD, show i.toNat < ws.length by omega]
theorem rd_wr_other {ws : List Int} {i j v : Int} (h : i.toNat ≠ j.toNat) : rd (wr ws i v) j = rd ws j := by
  unfold rd wr
  simp [List.getD, h]
theorem rd_wr {ws : List Int} {i j v : Int} (h0 : 0 ≤ i ∧ i < ws.length) (hj : 0 ≤ j) : rd (wr ws i v) j = if j = i then v else rd ws j := by
  by_cases e : j = i
  · subst e; rw [if_pos rfl]; exact rd_wr_same h0.1 h0.2
  · rw [if_neg e]; exact rd_wr_other (by omega)
theorem wr_rd {ws : List Int} {i v : Int} (h : rd ws i = v) (h0 : 0 ≤ i ∧ i < ws.length) : wr ws i v = ws := by
  unfold rd at h
  unfold wr
  subst h
  apply List.ext_getElem?
  intro j
  by_cases e : i.toNat = j
  · subst e; simp [List.getD, show i.toNat < ws.length by omega]
  · simp [e]
theorem rd_rep (n : Nat) (i : Int) : rd (List.replicate n 0) i = 0 := by
  unfold rd
  rw [List.getD_eq_getElem?_getD, List.getElem?_replicate]
  split <;> rfl
theorem tr_noted {ts : List (List Acc)} {c d : Int} (x : Acc) (hc : 0 ≤ c ∧ c < ts.length) (hd : 0 ≤ d) : tr (noted ts c x) d = if d = c then tr ts d ++ [x] else tr ts d := by
  unfold tr noted
  by_cases e : d = c
  · subst e
    rw [if_pos rfl]
    simp [List.getD, tr, show d.toNat < ts.length by omega]
  · rw [if_neg e]
    have : c.toNat ≠ d.toNat := by omega
    simp [List.getD, this]
theorem tr_rep (n : Nat) (c : Int) : tr (List.replicate n []) c = [] := by
  unfold tr
  rw [List.getD_eq_getElem?_getD, List.getElem?_replicate]
  split <;> rfl

def ArP (L : Nat → Prop) (w : World) (a : Nat) (ws : List Int) (n m : Nat) (P : List (List Acc) → Prop) : Prop :=
  ∃ ts, ts.length = n ∧ Short m ts ∧ P ts ∧ ArAt L w a ws ts
/-- P bears accesses of core c that are in S. -/
def Cl (n : Nat) (P : List (List Acc) → Prop) (c : Int) (S : Acc → Prop) : Prop := ∀ ts x, ts.length = n → P ts → S x → P (noted ts c x)
theorem Cl.sub {n : Nat} {P : List (List Acc) → Prop} {c : Int} {S S' : Acc → Prop} (h : Cl n P c S) (hs : ∀ x, S' x → S x) : Cl n P c S' := fun ts x h1 h2 h3 => h ts x h1 h2 (hs x h3)
theorem Cl.true_ (n : Nat) (c : Int) (S : Acc → Prop) : Cl n (fun _ => True) c S := fun _ _ _ _ _ => trivial

section
variable {L L' : Nat → Prop} {w w' : World} {a : Nat} {ws : List Int} {n m : Nat} {P P' : List (List Acc) → Prop}
theorem ArP.of {ts : List (List Acc)} (h : ArAt L w a ws ts) (hn : ts.length = n) (hm : Short m ts) (hp : P ts) : ArP L w a ws n m P := ⟨ts, hn, hm, hp, h⟩
theorem ArP.new (k : Nat) (hp : P (List.replicate k [])) (h : ArAt L w a ws (List.replicate k [])) : ArP L w a ws k 0 P := ⟨_, by simp, by intro t ht; simp at ht; simp [ht], hp, h⟩
theorem ArP.mono (h : ArP L w a ws n m P) {m' : Nat} (hm : m ≤ m') : ArP L w a ws n m' P := by
  obtain ⟨ts, h1, h2, h3, h4⟩ := h
  exact ⟨ts, h1, h2.mono hm, h3, h4⟩
theorem ArP.weak (h : ArP L w a ws n m P) (hp : ∀ ts, ts.length = n → P ts → P' ts) : ArP L w a ws n m P' := by
  obtain ⟨ts, h1, h2, h3, h4⟩ := h
  exact ⟨ts, h1, h2, hp ts h1 h3, h4⟩
theorem ArP.map (h : ArP L w a ws n m P) (hp : ∀ ts, ArAt L w a ws ts → ArAt L' w' a ws ts) : ArP L' w' a ws n m P := by
  obtain ⟨ts, h1, h2, h3, h4⟩ := h
  exact ⟨ts, h1, h2, h3, hp ts h4⟩
theorem ArP.bd (h : ArP L w a ws n m P) : Bd L w := by obtain ⟨ts, h1, h2, h3, h4⟩ := h; exact h4.bd
theorem ArP.lt (h : ArP L w a ws n m P) : a < w.heap.size := by obtain ⟨ts, h1, h2, h3, h4⟩ := h; exact h4.lt
theorem ArP.wsl (h : ArP L w a ws n m P) : ws.length ≤ 65536 := by obtain ⟨ts, h1, h2, h3, h4⟩ := h; exact h4.wsl
theorem ArP.tsl (h : ArP L w a ws n m P) : n ≤ 8 := by obtain ⟨ts, h1, h2, h3, h4⟩ := h; have := h4.tsl; omega
theorem ArP.drew (h : ArP L w a ws n m P) : ArP L w.drew a ws n m P := h.map fun _ h => h.drew
theorem ArP.drewN (h : ArP L w a ws n m P) (k : Nat) : ArP L (w.drewN k) a ws n m P := h.map fun _ h => h.drewN k
theorem ArP.alloc (h : ArP L w a ws n m P) (o : Obj) : ArP L (w.alloc o) a ws n m P := h.map fun _ h => h.alloc o
theorem ArP.allocIns (h : ArP L w a ws n m P) (o : Obj) : ArP (ins L w.heap.size) (w.alloc o) a ws n m P := h.map fun _ h => h.allocIns o
theorem ArP.setCell (h : ArP L w a ws n m P) {p : Addr} (hp : L p.block) (u : Value) : ArP L (w.setCell p u) a ws n m P := h.map fun _ h => h.setCell hp u
theorem ArP.below (h : ArP L w a ws n m P) (hb : Below w.heap.size w w') : ArP L w' a ws n m P := h.map fun _ h => h.below hb
theorem ArP.sub (h : ArP L w a ws n m P) (hs : ∀ b, L' b → L b) : ArP L' w a ws n m P := h.map fun _ h => h.sub hs

theorem load_p (h : ArP L w a ws n m P) (hm : m ≤ 1099511627776) {c i : Int} (h0 : 0 ≤ c ∧ c < n) (h1 : 0 ≤ i ∧ i < ws.length) {r : Int} (hr : rd ws i = r) {S : Acc → Prop} (hc : Cl n P c S) (hs : S (i, false)) :
    Calls Try.prog 59 #[.pointer (some ⟨a, 0, none⟩), .int .i64 c, .int .i64 i] w fun e w' => e = .returned (.tuple #[.int .i64 r, .int .i64 0]) ∧ ArP L w' a ws n (m + 1) P ∧ Keeps L w w' := by
  obtain ⟨ts, g1, g2, g3, g4⟩ := h
  subst g1
  refine (load_to g4 (Room.of g2 hm) h0 h1 hr rfl).mono ?_
  rintro e w' ⟨rfl, q1, q2⟩
  exact ⟨rfl, ⟨_, by simp, g2.noted _, hc _ _ rfl g3 hs, q1⟩, q2⟩
theorem store_p (h : ArP L w a ws n m P) (hm : m ≤ 1099511627776) {c i v : Int} (h0 : 0 ≤ c ∧ c < n) (h1 : 0 ≤ i ∧ i < ws.length) {ws' : List Int} (hw : wr ws i v = ws') {S : Acc → Prop} (hc : Cl n P c S) (hs : S (i, true)) :
    Calls Try.prog 57 #[.pointer (some ⟨a, 0, none⟩), .int .i64 c, .int .i64 i, .int .i64 v] w fun e w' => e = .returned (.int .i64 0) ∧ ArP L w' a ws' n (m + 1) P ∧ Keeps L w w' := by
  obtain ⟨ts, g1, g2, g3, g4⟩ := h
  subst g1
  refine (store_to g4 (Room.of g2 hm) h0 h1 hw rfl).mono ?_
  rintro e w' ⟨rfl, q1, q2⟩
  exact ⟨rfl, ⟨_, by simp, g2.noted _, hc _ _ rfl g3 hs, q1⟩, q2⟩
theorem add_p (h : ArP L w a ws n m P) (hm : m ≤ 1099511627776) {c i v : Int} (h0 : 0 ≤ c ∧ c < n) (h1 : 0 ≤ i ∧ i < ws.length) {r : Int} (hr : wrap64 (rd ws i + v) = r) {ws' : List Int} (hw : wr ws i r = ws') {S : Acc → Prop} (hc : Cl n P c S) (hs : S (i, true)) :
    Calls Try.prog 54 #[.pointer (some ⟨a, 0, none⟩), .int .i64 c, .int .i64 i, .int .i64 v] w fun e w' => e = .returned (.tuple #[.int .i64 r, .int .i64 0]) ∧ ArP L w' a ws' n (m + 1) P ∧ Keeps L w w' := by
  obtain ⟨ts, g1, g2, g3, g4⟩ := h
  subst g1
  refine (add_to g4 (Room.of g2 hm) h0 h1 hr hw rfl).mono ?_
  rintro e w' ⟨rfl, q1, q2⟩
  exact ⟨rfl, ⟨_, by simp, g2.noted _, hc _ _ rfl g3 hs, q1⟩, q2⟩
theorem poke_p (h : ArP L w a ws n m P) {i v : Int} (h1 : 0 ≤ i ∧ i < ws.length) {ws' : List Int} (hw : wr ws i v = ws') :
    Calls Try.prog 48 #[.pointer (some ⟨a, 0, none⟩), .int .i64 i, .int .i64 v] w fun e w' => e = .returned (.tuple #[]) ∧ ArP L w' a ws' n m P ∧ Keeps L w w' := by
  obtain ⟨ts, g1, g2, g3, g4⟩ := h
  refine (poke_to g4 h1 hw).mono ?_
  rintro e w' ⟨rfl, q1, q2⟩
  exact ⟨rfl, ⟨_, g1, g2, g3, q1⟩, q2⟩
theorem cores_p (h : ArP L w a ws n m P) : Calls Try.prog 49 #[.pointer (some ⟨a, 0, none⟩)] w fun e w' => e = .returned (.int .i64 n) ∧ w = w' := by
  obtain ⟨ts, g1, g2, g3, g4⟩ := h
  subst g1
  exact cores_calls g4
theorem fits_yes_p (h : ArP L w a ws n m P) (f k : Int) (h0 : 0 ≤ f) (h1 : 0 ≤ k) (h2 : f + k ≤ ws.length) :
    Calls Try.prog 47 #[.pointer (some ⟨a, 0, none⟩), .int .i64 f, .int .i64 k] w fun e w' => e = .returned (.bool true) ∧ w = w' := by
  obtain ⟨ts, g1, g2, g3, g4⟩ := h
  exact fits_yes g4 f k h0 h1 h2
theorem fits_no_p (h : ArP L w a ws n m P) (f k : Int) (hx : -9223372036854775808 ≤ f ∧ f ≤ 9223372036854775807) (hc : f < 0 ∨ k < 0 ∨ (ws.length : Int) < f ∨ (ws.length : Int) - f < k) :
    Calls Try.prog 47 #[.pointer (some ⟨a, 0, none⟩), .int .i64 f, .int .i64 k] w fun e w' => e = .returned (.bool false) ∧ w = w' := by
  obtain ⟨ts, g1, g2, g3, g4⟩ := h
  exact fits_no g4 f k hx hc
theorem clear_p (h : ArP L w a ws n m P) {c : Int} (h0 : 0 ≤ c ∧ c < n) (hp : ∀ ts, ts.length = n → P ts → P' (ts.set c.toNat [])) :
    Calls Try.prog 23 #[.pointer (some ⟨a, 0, none⟩), .int .i64 c] w fun e w' => e = .returned (.int .i64 0) ∧ ArP L w' a ws n m P' ∧ Keeps L w w' := by
  obtain ⟨ts, g1, g2, g3, g4⟩ := h
  subst g1
  refine (clear_to g4 h0 rfl).mono ?_
  rintro e w' ⟨rfl, q1, q2⟩
  refine ⟨rfl, ⟨_, by simp, ?_, hp _ rfl g3, q1⟩, q2⟩
  intro t ht
  rcases List.mem_or_eq_of_mem_set ht with ht | rfl
  · exact g2 t ht
  · exact Nat.zero_le _
end
end Go.Proofs.Ytkbajjpdngfhbaa
