/- Texts of one's own that a claim's last text rests on: ArP Ints WordsP Words Out Decg Tm4 Tm6 Spoil. -/
import Derived.Test.YtkebjgebkneijaaGreatMG7
import Derived.Deep.RegionHeld3
import Derived.Deep.Slices
import Derived.Test.YtkebjgebkneijaaGreatMG28
import Derived.Handy
import Derived.Test.YtkebjgebkneijaaGreatMG27
import Derived.Deep.RegionHeldLaw
import Derived.Test.YtkebjgebkneijaaGreatMG26
set_option linter.unusedVariables false
set_option linter.unusedSimpArgs false
namespace Go.Proofs.YtkebjgebkneijaaGreat
section
open Go.RowKit
set_option maxHeartbeats 400000
theorem bel_then {w w1 w2 : World} (h : Below w.heap.size w w1) (k : Below w1.heap.size w1 w2) : Below w.heap.size w w2 := h.trans (k.mono h.size)
def ArP (L : Nat -> Prop) (w : World) (a : Nat) (ws : List Int) (n m : Nat) (P : List (List Acc) -> Prop) : Prop :=
 ∃ ts, ts.length = n /\ Short m ts /\ P ts /\ ArAt L w a ws ts
def Cl (n : Nat) (P : List (List Acc) -> Prop) (c : Int) (S : Acc -> Prop) : Prop := ∀ ts x, ts.length = n -> P ts -> S x -> P (noted ts c x)
theorem Cl.sub {n : Nat} {P : List (List Acc) -> Prop} {c : Int} {S S' : Acc -> Prop} (h : Cl n P c S) (hs : ∀ x, S' x -> S x) : Cl n P c S' := fun ts x h1 h2 h3 => h ts x h1 h2 (hs x h3)
section
variable {L L' : Nat -> Prop} {w w' : World} {a : Nat} {ws : List Int} {n m : Nat} {P P' : List (List Acc) -> Prop}
theorem ArP.of {ts : List (List Acc)} (h : ArAt L w a ws ts) (hn : ts.length = n) (hm : Short m ts) (hp : P ts) : ArP L w a ws n m P := ⟨ts, hn, hm, hp, h⟩
theorem ArP.new (k : Nat) (hp : P (List.replicate k [])) (h : ArAt L w a ws (List.replicate k [])) : ArP L w a ws k 0 P := ⟨_, by simp, by intro t ht; simp at ht; simp [ht], hp, h⟩
theorem ArP.mono (h : ArP L w a ws n m P) {m' : Nat} (hm : m <= m') : ArP L w a ws n m' P := by
 obtain ⟨ts, h1, h2, h3, h4⟩ := h
 exact ⟨ts, h1, h2.mono hm, h3, h4⟩
theorem ArP.map (h : ArP L w a ws n m P) (hp : ∀ ts, ArAt L w a ws ts -> ArAt L' w' a ws ts) : ArP L' w' a ws n m P := by
 obtain ⟨ts, h1, h2, h3, h4⟩ := h
 exact ⟨ts, h1, h2, h3, hp ts h4⟩
theorem ArP.bd (h : ArP L w a ws n m P) : Bd L w := by obtain ⟨ts, h1, h2, h3, h4⟩ := h; exact h4.bd
theorem ArP.lt (h : ArP L w a ws n m P) : a < w.heap.size := by obtain ⟨ts, h1, h2, h3, h4⟩ := h; exact h4.lt
theorem ArP.wsl (h : ArP L w a ws n m P) : ws.length <= 65536 := by obtain ⟨ts, h1, h2, h3, h4⟩ := h; exact h4.wsl
theorem ArP.tsl (h : ArP L w a ws n m P) : n <= 8 := by obtain ⟨ts, h1, h2, h3, h4⟩ := h; have := h4.tsl; omega
theorem ArP.drew (h : ArP L w a ws n m P) : ArP L w.drew a ws n m P := h.map fun _ h => h.drew
theorem ArP.drewN (h : ArP L w a ws n m P) (k : Nat) : ArP L (w.drewN k) a ws n m P := h.map fun _ h => h.drewN k
theorem ArP.alloc (h : ArP L w a ws n m P) (o : Obj) : ArP L (w.alloc o) a ws n m P := h.map fun _ h => h.alloc o
theorem ArP.allocIns (h : ArP L w a ws n m P) (o : Obj) : ArP (ins L w.heap.size) (w.alloc o) a ws n m P := h.map fun _ h => h.allocIns o
theorem ArP.setCell (h : ArP L w a ws n m P) {p : Addr} (hp : L p.block) (u : Value) : ArP L (w.setCell p u) a ws n m P := h.map fun _ h => h.setCell hp u
theorem ArP.below (h : ArP L w a ws n m P) (hb : Below w.heap.size w w') : ArP L w' a ws n m P := h.map fun _ h => h.below hb
theorem ArP.sub (h : ArP L w a ws n m P) (hs : ∀ b, L' b -> L b) : ArP L' w a ws n m P := h.map fun _ h => h.sub hs
end
end
section
open Go.RowKit
def nth (xs : List Int) (k : Nat) : Int := xs.getD k 0
def Ints (w : World) (A : Option Addr) (len cap : Nat) (xs : List Int) : Prop :=
 xs.length = len /\ len <= cap /\ cap <= maxLen /\ (∀ x ∈ xs, -9223372036854775808 <= x /\ x <= 9223372036854775807) /\
 (0 < len -> ∃ g off, A = some ⟨g, off, none⟩ /\ ∀ j, j < len -> w.cell? ⟨g, off + j, none⟩ = some (.int .i64 (nth xs j)))
theorem wf_range {n : Int} (h : (Lit.int .i64 n).wf = true) : -9223372036854775808 <= n /\ n <= 9223372036854775807 := by
 simp [Lit.wf, IntKind.min, IntKind.max, IntKind.signed, IntKind.bits] at h
 omega
theorem Ints.nil_ (w : World) : Ints w none 0 0 [] := ⟨rfl, Nat.le_refl _, Nat.zero_le _, by simp, fun h => absurd h (by omega)⟩
theorem Ints.ofRow {w : World} {x : Addr} {len cap : Nat} {zs : List Int} (hl : len <= cap) (hm : cap <= maxLen) (hz : zs.length = cap)
  (hcell : ∀ i, i < zs.length -> w.cell? (x.add i) = some (.int .i64 (zs.getD i 0))) (hwz : ∀ n ∈ zs, (Lit.int .i64 n).wf = true) : Ints w (some x) len cap (zs.take len) := by
 refine ⟨by simp; omega, hl, hm, fun n hn => wf_range (hwz n (List.mem_of_mem_take hn)), fun h0 => ?_⟩
 have hsp : x.spot = none := by
  have h := hcell 0 (by omega)
  have hx : x.add 0 = x := rfl
  rw [hx] at h
  cases hs : x.spot with
  | none => rfl
  | some s => simp [World.cell?, hs] at h; split at h <;> simp at h
 obtain ⟨g, off, sp⟩ := x
 simp only at hsp
 subst hsp
 refine ⟨g, off, rfl, fun j hj => ?_⟩
 have h := hcell j (by omega)
 rw [Addr.add_lit] at h
 rw [h]
 have : nth (zs.take len) j = zs.getD j 0 := by simp [nth, List.getD, hj]
 rw [this]
theorem Ints.at_ {w wr : World} {A : Option Addr} {len cap k : Nat} {xs : List Int} (h : Ints w A len cap xs) (hk : k < len) (hb : Below w.heap.size w wr) :
  ∃ g off, A = some ⟨g, off, none⟩ /\ wr.cell? ⟨g, off + k, none⟩ = some (.int .i64 (nth xs k)) /\ -9223372036854775808 <= nth xs k /\ nth xs k <= 9223372036854775807 := by
 obtain ⟨h1, _, _, h3, h4⟩ := h
 obtain ⟨g, off, hA, hc⟩ := h4 (by omega)
 have hc' := hc k hk
 refine ⟨g, off, hA, (hb.cell (World.block_lt_of_cell? w _ hc')).trans hc', ?_⟩
 have hm : nth xs k ∈ xs := by
  unfold nth
  rw [List.getD_eq_getElem?_getD, List.getElem?_eq_getElem (by omega)]
  exact List.getElem_mem _
 exact h3 _ hm
theorem Ints.len_le {w : World} {A : Option Addr} {len cap : Nat} {xs : List Int} (h : Ints w A len cap xs) : len <= 9223372036854775807 := by
 have := h.2.1
 have h2 := h.2.2.1
 unfold maxLen at h2
 omega
end
section
def Rises (xs : List Int) : Prop := xs.Pairwise (· < ·)
theorem nth_eq {xs : List Int} {j : Nat} (h : j < xs.length) : nth xs j = xs[j] := by
 unfold nth
 rw [List.getD_eq_getElem?_getD, List.getElem?_eq_getElem h]; rfl
theorem Rises.lt {xs : List Int} (h : Rises xs) {i j : Nat} (hij : i < j) (hj : j < xs.length) : nth xs i < nth xs j := by
 rw [nth_eq (by omega), nth_eq hj]
 exact List.pairwise_iff_getElem.1 h i j (by omega) hj hij
theorem Rises.nil : Rises [] := List.Pairwise.nil
def Hi (xs : List Int) (x : Int) (j : Nat) : Prop := ∀ i, j <= i -> i < xs.length -> x < nth xs i
theorem Hi.down {xs : List Int} {x : Int} {j : Nat} (h : Hi xs x (j + 1)) (hj : x < nth xs j) : Hi xs x j := fun i h1 h2 => by
 by_cases e : i = j
 ·subst e; exact hj
 ·exact h i (by omega) h2
def put (xs : List Int) (x : Int) (j : Nat) : List Int := xs.take j ++ x :: xs.drop j
theorem put_length {xs : List Int} {x : Int} {j : Nat} (hj : j <= xs.length) : (put xs x j).length = xs.length + 1 := by
 simp [put]; omega
theorem mem_put {xs : List Int} {x : Int} {j : Nat} (y : Int) : y ∈ put xs x j ↔ y = x ∨ y ∈ xs := by
 unfold put
 rw [List.mem_append, List.mem_cons]
 have h := List.take_append_drop j xs
 constructor
 ·rintro (h1 | h1 | h1)
  ·exact .inr (List.mem_of_mem_take h1)
  ·exact .inl h1
  ·exact .inr (List.mem_of_mem_drop h1)
 ·rintro (h1 | h1)
  ·exact .inr (.inl h1)
  ·rw [<- h, List.mem_append] at h1
   rcases h1 with h1 | h1
   ·exact .inl h1
   ·exact .inr (.inr h1)
theorem Rises.put {xs : List Int} {x : Int} {j : Nat} (h : Rises xs) (hj : j <= xs.length) (hlo : 0 < j -> nth xs (j - 1) < x) (hhi : Hi xs x j) : Rises (put xs x j) := by
 have lo : ∀ y ∈ xs.take j, y < x := by
  intro y hy
  obtain ⟨i, hi, rfl⟩ := List.getElem_of_mem hy
  rw [List.length_take] at hi
  rw [List.getElem_take]
  by_cases e : i = j - 1
  ·have := hlo (by omega)
   rw [nth_eq (by omega)] at this
   subst e; exact this
  ·have h1 := h.lt (i := i) (j := j - 1) (by omega) (by omega)
   have h2 := hlo (by omega)
   rw [nth_eq (by omega)] at h1
   omega
 have hi : ∀ y ∈ xs.drop j, x < y := by
  intro y hy
  obtain ⟨i, hi, rfl⟩ := List.getElem_of_mem hy
  rw [List.length_drop] at hi
  rw [List.getElem_drop, <- nth_eq (by omega)]
  exact hhi (j + i) (by omega) (by omega)
 unfold Proofs.YtkebjgebkneijaaGreat.put
 refine List.pairwise_append.2 ⟨List.Pairwise.sublist (List.take_sublist _ _) h, List.pairwise_cons.2 ⟨hi, List.Pairwise.sublist (List.drop_sublist _ _) h⟩, ?_⟩
 intro y hy z hz
 rcases List.mem_cons.1 hz with rfl | hz
 ·exact lo y hy
 ·have h1 := lo y hy
  have h2 := hi z hz
  omega
theorem Rises.ext {xs ys : List Int} (h : Rises xs) (h' : Rises ys) (hm : ∀ y, y ∈ xs ↔ y ∈ ys) : xs = ys := by
 induction xs generalizing ys with
 | nil =>
  cases ys with
  | nil => rfl
  | cons y ys => exact absurd ((hm y).2 (List.mem_cons_self ..)) (by simp)
 | cons x xs ih =>
  cases ys with
  | nil => exact absurd ((hm x).1 (List.mem_cons_self ..)) (by simp)
  | cons y ys =>
   obtain ⟨hx, hxs⟩ := List.pairwise_cons.1 h
   obtain ⟨hy, hys⟩ := List.pairwise_cons.1 h'
   have e : x = y := by
    rcases List.mem_cons.1 ((hm x).1 (List.mem_cons_self ..)) with e | e
    ·exact e
    ·rcases List.mem_cons.1 ((hm y).2 (List.mem_cons_self ..)) with e2 | e2
     ·exact e2.symm
     ·have := hx y e2
      have := hy x e
      omega
   subst e
   congr 1
   refine ih hxs hys fun z => ⟨fun hz => ?_, fun hz => ?_⟩
   ·rcases List.mem_cons.1 ((hm z).1 (List.mem_cons_of_mem _ hz)) with e | e
    ·have := hx z hz; omega
    ·exact e
   ·rcases List.mem_cons.1 ((hm z).2 (List.mem_cons_of_mem _ hz)) with e | e
    ·have := hy z hz; omega
    ·exact e
structure WSt (t : List (Int × Bool)) (b : Bool) (us : List Int) : Prop where
 len : us.length <= t.length
 up : Rises us
 mem : ∀ y, y ∈ us ↔ ∃ x ∈ t, (b = true -> x.2 = true) /\ x.1 = y
theorem WSt.nil (b : Bool) : WSt [] b [] := ⟨Nat.le_refl _, Rises.nil, by simp⟩
theorem WSt.skip {t : List (Int × Bool)} {b : Bool} {us : List Int} (h : WSt t b us) {x : Int × Bool} (hb : b = true) (hx : x.2 = false) : WSt (t ++ [x]) b us := by
 refine ⟨by have := h.len; simp; omega, h.up, fun y => ?_⟩
 rw [h.mem]
 constructor
 ·rintro ⟨z, h1, h2⟩; exact ⟨z, List.mem_append_left _ h1, h2⟩
 ·rintro ⟨z, h1, h2, h3⟩
  rcases List.mem_append.1 h1 with h1 | h1
  ·exact ⟨z, h1, h2, h3⟩
  ·rw [List.mem_singleton.1 h1, hx] at h2
   exact absurd (h2 hb) (by simp)
theorem WSt.same {t : List (Int × Bool)} {b : Bool} {us : List Int} (h : WSt t b us) {x : Int × Bool} (hx : x.1 ∈ us) : WSt (t ++ [x]) b us := by
 refine ⟨by have := h.len; simp; omega, h.up, fun y => ?_⟩
 constructor
 ·intro hy
  obtain ⟨z, h1, h2⟩ := (h.mem y).1 hy
  exact ⟨z, List.mem_append_left _ h1, h2⟩
 ·rintro ⟨z, h1, h2, h3⟩
  rcases List.mem_append.1 h1 with h1 | h1
  ·exact (h.mem y).2 ⟨z, h1, h2, h3⟩
  ·rw [List.mem_singleton.1 h1] at h3
   rw [<- h3]; exact hx
theorem WSt.put {t : List (Int × Bool)} {b : Bool} {us : List Int} (h : WSt t b us) {x : Int × Bool} (hb : b = true -> x.2 = true) {j : Nat} (hj : j <= us.length) (hlo : 0 < j -> nth us (j - 1) < x.1) (hhi : Hi us x.1 j) : WSt (t ++ [x]) b (put us x.1 j) := by
 refine ⟨by have := h.len; rw [put_length hj]; simp; omega, h.up.put hj hlo hhi, fun y => ?_⟩
 rw [mem_put, h.mem]
 constructor
 ·rintro (e | ⟨z, h1, h2⟩)
  ·exact ⟨x, by simp, hb, e.symm⟩
  ·exact ⟨z, List.mem_append_left _ h1, h2⟩
 ·rintro ⟨z, h1, h2, h3⟩
  rcases List.mem_append.1 h1 with h1 | h1
  ·exact .inr ⟨z, h1, h2, h3⟩
  ·rw [List.mem_singleton.1 h1] at h3
   exact .inl h3.symm
end
section
open Go.RowKit
set_option maxHeartbeats 1000000
theorem info_intW : (Tryz.prog.info? 3).map (fun i => (i.zero, i.size, i.bytes)) = some (some (.int .i64 0), 1, 8) := by kernel_rfl
theorem ints_at {xs : List Int} {k : Nat} (h : k < xs.length) : (xs.map (Value.int .i64))[k]? = some (.int .i64 (nth xs k)) := by
 rw [List.getElem?_map, List.getElem?_eq_getElem h, nth_eq h]; rfl
def IntRow (w : World) (B : Nat) (v : Value) (us : List Int) : Prop := w.ownsRow B 3 1 v us.length (us.map (Value.int .i64))
theorem IntRow.nil (w : World) (B : Nat) : IntRow w B (.slice none 0 0) [] := World.ownsRow_nil _ _ _ _
theorem IntRow.form {w : World} {B : Nat} {v : Value} {us : List Int} (h : IntRow w B v us) : ∃ A cap, v = .slice A us.length cap /\ us.length <= cap /\ cap <= maxLen /\ (0 < us.length -> ∃ g, A = some ⟨g, 0, none⟩ /\ B <= g /\ ∀ j, j < us.length -> w.cell? ⟨g, j, none⟩ = some (.int .i64 (nth us j)) /\ w.frozen? ⟨g, j, none⟩ = false) := by
 have h' := h
 rcases h.2 with ⟨rfl, h0⟩ | ⟨g, cap, cur, rfl, hb, hg, hnc, hcm, _⟩
 ·exact ⟨none, 0, by rw [h0], by omega, by simp [maxLen], fun h => absurd h (by omega)⟩
 ·refine ⟨some ⟨g, 0, none⟩, cap, rfl, hnc, hcm, fun _ => ⟨g, rfl, hb, fun j hj => ⟨?_, Blk.frozen (t := 3) hg j⟩⟩⟩
  have := h.cells (g := g) rfl j _ (ints_at hj)
  rw [Addr.add_lit, Nat.zero_add] at this
  exact this
theorem IntRow.sl {w : World} {B : Nat} {v : Value} {us : List Int} (h : IntRow w B v us) : Sl w 1 v us.length (us.map (Value.int .i64)) := Sl.ofOwn h
theorem IntRow.drewN {w : World} {B : Nat} {v : Value} {us : List Int} (h : IntRow w B v us) (d : Nat) : IntRow (w.drewN d) B v us := h
structure WdAt (t : List Acc) (b : Bool) (w : World) (v : Value) (k : Nat) (wr : World) (us : List Int) : Prop where
 st : WSt (t.take k) b us
 own : IntRow wr w.heap.size v us
 keeps : Below w.heap.size w wr
theorem WdAt.start (t : List Acc) (b : Bool) (w : World) : WdAt t b w (.slice none 0 0) 0 w [] := ⟨WSt.nil b, IntRow.nil _ _, Below.refl _ _⟩
theorem take_snocA {t : List Acc} {k : Nat} (h : k < t.length) : t.take (k + 1) = t.take k ++ [t[k]] := List.take_succ_eq_append_getElem h
theorem below_drewN' {B : Nat} {a w : World} (h : Below B a w) (n : Nat) : Below B a (w.drewN n) := ⟨h.os, h.tape, h.output, h.size, h.block⟩
theorem WdAt.skip {t : List Acc} {b : Bool} {w wr : World} {v : Value} {k : Nat} {us : List Int} (h : WdAt t b w v k wr us) (hk : k < t.length) (hb : b = true) (hx : t[k].2 = false) (d : Nat) : WdAt t b w v (k + 1) (wr.drewN d) us :=
 ⟨by rw [take_snocA hk]; exact h.st.skip hb hx, h.own, below_drewN' h.keeps d⟩
theorem WdAt.same {t : List Acc} {b : Bool} {w wr : World} {v : Value} {k : Nat} {us : List Int} (h : WdAt t b w v k wr us) (hk : k < t.length) (hx : t[k].1 ∈ us) (d : Nat) : WdAt t b w v (k + 1) (wr.drewN d) us :=
 ⟨by rw [take_snocA hk]; exact h.st.same hx, h.own, below_drewN' h.keeps d⟩
theorem WdAt.put {t : List Acc} {b : Bool} {w wr w' : World} {v v' : Value} {k j n : Nat} {us : List Int} (h : WdAt t b w v k wr us) (hk : k < t.length) (hb : b = true -> t[k].2 = true) (hj : j <= us.length) (hlo : 0 < j -> nth us (j - 1) < t[k].1) (hhi : Hi us t[k].1 j)
  (hown : w'.ownsRow w.heap.size 3 1 v' n ((us.take j).map (Value.int .i64) ++ [.int .i64 t[k].1] ++ (us.drop j).map (Value.int .i64))) (hn : n = us.length + 1) (hB : Below w.heap.size w w') : WdAt t b w v' (k + 1) w' (put us t[k].1 j) := by
 refine ⟨by rw [take_snocA hk]; exact h.st.put hb hj hlo hhi, ?_, hB⟩
 unfold IntRow
 rw [put_length hj, <- hn]
 simpa [Proofs.YtkebjgebkneijaaGreat.put] using hown
end
section
open Go.RowKit
set_option maxHeartbeats 400000
def lo (L : Nat -> Prop) (v : Value) : Nat -> Prop := fun b => L b ∨ v.ownBlock = some b
section
variable {L : Nat -> Prop} {w w' : World} {a : Nat} {ws : List Int} {n m : Nat} {P : List (List Acc) -> Prop}
theorem ArP.grown {v v' : Value} (h : ArP (lo L v) w a ws n m P) (hg : w.grownBy w' v.ownBlock) (hv : ∀ g, v'.ownBlock = some g -> (v.ownBlock = some g ∨ w.heap.size <= g) /\ g < w'.heap.size) : ArP (lo L v') w' a ws n m P :=
 h.map fun _ h => h.move (fun b hb => by
  rcases hb with hb | hb
  ·exact Nat.lt_of_lt_of_le (h.bd b (.inl hb)) hg.size
  ·exact (hv b hb).2) (fun b hb hlt => by
  rcases hb with hb | hb
  ·exact .inl hb
  ·rcases (hv b hb).1 with e | e
   ·exact .inr e
   ·omega) (fun b hlt hn => hg.block b hlt (fun e => hn (.inr e.symm)))
end
end
section
open Go.RowKit
set_option maxHeartbeats 1000000
def dig : Nat -> Nat -> List Nat
 | 0, _ => []
 | b + 1, n => if n = 0 then [] else dig b (n / 10) ++ [n % 10]
def dgs (n : Nat) : List Nat := if n = 0 then [0] else dig 20 n
def lenV : Value -> Nat
 | .slice _ n _ => n
 | _ => 0
def encDg (l : List Nat) : List Value := l.map fun b => Value.int .u8 ((48 + b : Nat) : Int)
theorem encDg_one (l : List Nat) : ∀ u ∈ encDg l, u.oneCell' = true := by
 intro u hu
 obtain ⟨b, _, rfl⟩ := List.mem_map.1 hu
 rfl
def strD (l : List Nat) : ByteArray := ⟨(l.map fun b => UInt8.ofNat (48 + b)).toArray⟩
theorem own_reads {w : World} {base n cap : Nat} {A : Option Addr} {e : TypeId} {xs : List Value} (h : w.ownsRow base e 1 (.slice A n cap) n xs) : Reads w w.heap.size 1 A n xs := by
 refine ⟨h.1, fun hn => ?_⟩
 rcases h.2 with ⟨h0, _⟩ | ⟨g, c, cur, hv, hb, hh, _⟩
 ·cases h0; omega
 ·have hA : A = some ⟨g, 0, none⟩ := by injection hv
  refine ⟨⟨g, 0, none⟩, hA, Blk.lt (show Blk w g _ cur from hh), fun j u hu => ?_⟩
  exact h.cells (g := g) (by rw [hA]; rfl) j u hu
theorem info_byteDg : (Tryz.prog.info? 5).map (fun i => (i.zero, i.size, i.bytes)) = some (some (.int .u8 0), 1, 1) := by kernel_rfl
theorem info_byteD : ∃ i z, Tryz.prog.info? 5 = some i /\ i.zero = some z /\ i.size = 1 /\ i.bytes = 1 /\ z.cells.size = 1 := by
 obtain ⟨i0, hi, hz0, hz1, hz2⟩ := info_parts info_byteDg
 exact ⟨i0, _, hi, hz0, hz1, hz2, rfl⟩
theorem dig_succ (b n : Nat) : dig (b + 1) n = if n = 0 then [] else dig b (n / 10) ++ [n % 10] := rfl
theorem dig_zero : ∀ b, dig b 0 = []
 | 0 => rfl
 | b + 1 => by unfold dig; rw [if_pos rfl]
theorem cv_digits {w : World} {base cap : Nat} {A : Option Addr} {l : List Nat} (hl : l ≠ []) (hd : ∀ b ∈ l, b < 10) (h : w.ownsRow base 5 1 (.slice A l.length cap) l.length (encDg l)) : (convert 95 9 (.slice A l.length cap)).run Tryz.prog w = .ok (.string (strD l)) w := by
 rcases h.2 with ⟨h0, h1⟩ | ⟨g, c, cur, hv, hb, hh, _⟩
 ·exact absurd (List.length_eq_zero_iff.1 h1) hl
 ·have hA : A = some ⟨g, 0, none⟩ := by injection hv
  subst hA
  have hc := run_convert_bytes_back (P := Tryz.prog) w 95 9 5 ⟨g, 0, none⟩ cap (l.map fun b => UInt8.ofNat (48 + b)) Tryz.underlying95 Tryz.underlying5 Tryz.underlying9 (fun j hj => by
   have hj' : j < l.length := by simpa using hj
   have := h.cells (g := g) rfl j (Value.int .u8 ((48 + l[j] : Nat) : Int)) (by unfold encDg; rw [List.getElem?_map, List.getElem?_eq_getElem hj']; rfl)
   rw [this]
   have hb := hd l[j] (List.getElem_mem hj')
   simp only [List.getElem_map]
   rw [UInt8.toNat_ofNat', Nat.mod_eq_of_lt (by omega)])
  rw [List.length_map] at hc
  exact hc
theorem dig_lt : ∀ b n, ∀ d ∈ dig b n, d < 10
 | 0, _, d, h => by cases h
 | b + 1, n, d, h => by
  unfold dig at h
  by_cases hn : n = 0
  ·rw [if_pos hn] at h; cases h
  ·rw [if_neg hn, List.mem_append, List.mem_singleton] at h
   rcases h with h | rfl
   ·exact dig_lt b _ d h
   ·exact Nat.mod_lt _ (by omega)
theorem dgs_lt (n : Nat) : ∀ d ∈ dgs n, d < 10 := by
 intro d h
 unfold dgs at h
 by_cases hn : n = 0
 ·rw [if_pos hn, List.mem_singleton] at h; omega
 ·rw [if_neg hn] at h
  exact dig_lt 20 n d h
set_option maxRecDepth 1000000 in
theorem decimal_calls (x : Nat) (hx : x < 1000) (w : World) :
  Calls Tryz.prog 16 #[.int .i64 x] w fun e w' => e = .returned (.string (strD (dgs x))) /\ Below w.heap.size w w' := by
 obtain ⟨z, hz⟩ : ∃ z : Int, (x : Int) = z := ⟨_, rfl⟩
 have hz0 : ¬ z < 0 := by omega
 have hzw : IntKind.u64.wrap z = z := by rw [IntKind.wrap_u64]; omega
 obtain ⟨i0, dz, hi, hy0, hy1, hy2, hy3⟩ := info_byteD
 rw [hz]
 go_enter Tryz.func16, Tryz.ntmps16
 go_wp2_with (fail)
 go_loopw [4, 3] (fun v q wr => ∃ (k : Nat) (l : List Nat) (b : Nat), q = .int .u64 k /\ k < 1000 /\ l.length <= 40 - 2 * b /\ b <= 20 /\ k < 10 ^ b /\ ((l = [] /\ k = x /\ v = .slice none 0 0) ∨ (l ≠ [] /\ dig b k ++ l = dgs x)) /\ (∃ A cap, v = .slice A l.length cap) /\ wr.ownsRow w.heap.size 5 1 v l.length (encDg l) /\ Below w.heap.size w wr) (fun v q _ => 2 * (intOf q).toNat + (if lenV v = 0 then 1 else 0))
 case atStart => exact ⟨x, [], 20, by rw [hz], hx, by simp, by omega, Nat.lt_of_lt_of_le hx (by decide), .inl ⟨rfl, rfl, rfl⟩, ⟨none, 0, rfl⟩, World.ownsRow_nil _ _ _ _, Below.refl _ _⟩
 case round =>
  obtain ⟨k, l, b, rfl, hk, hll, hb, hkb, hrel, ⟨A, cap, rfl⟩, hown, hBr⟩ := hrel
  have HO := lhi hown
  have HBR := lhi hBr
  clear hown hBr
  by_cases hgo : 0 < k ∨ l.length = 0
  ·obtain ⟨y, hy⟩ : ∃ y : Int, (k : Int) = y := ⟨_, rfl⟩
   have hyn : 0 <= y := by omega
   have hbase := HBR.out.size
   have OWN0 := lhi (show (wr.alloc (.cells #[.int .u8 (48 + y % 10)] 5)).ownsRow w.heap.size 5 1 (.slice (some ⟨wr.heap.size, 0, none⟩) 1 1) 1 [.int .u8 (48 + y % 10)] from
    ⟨rfl, .inr ⟨wr.heap.size, 1, #[.int .u8 (48 + y % 10)], rfl, hbase, heap_alloc_new wr _, Nat.le_refl _, by decide, rfl, rfl⟩⟩)
   have HRD := lhi ((own_reads HO.out).alloc (Nat.le_refl _) (Obj.cells #[.int .u8 (48 + y % 10)] 5))
   rw [hy]
   have HY := lhi hy
   have HGO := lhi hgo
   have hll2 : l.length <= 40 := by omega
   have hsp : l ≠ [] /\ 0 < y ∨ (l = [] /\ A = none /\ cap = 0) := by
    by_cases q : l = []
    ·refine .inr ⟨q, ?_⟩
     rcases hrel with ⟨_, _, h⟩ | ⟨h, _⟩
     ·injection h with h1 h2 h3
      exact ⟨h1, h3⟩
     ·exact absurd q h
    ·refine .inl ⟨q, ?_⟩
     rcases hgo with h | h
     ·omega
     ·exact absurd (List.length_eq_zero_iff.1 h) q
   have hq10 : IntKind.u64.wrap (y.tdiv 10) = ((k / 10 : Nat) : Int) := by
    rw [<- hy, Int.tdiv_eq_ediv_of_nonneg (by omega), IntKind.wrap_u64]
    omega
   have HQ10 := lhi hq10
   have hdig : (48 + y % 10 : Int) = ((48 + k % 10 : Nat) : Int) := by omega
   have HDG := lhi hdig
   clear hy hgo hq10 hdig
   have HREL := lhi hrel
   clear hrel
   rcases hsp with ⟨hsp0, hsp⟩ | ⟨rfl, rfl, rfl⟩
   ·go_wp2_with (first | (at_builtin; refine wpList_append_any _ rfl (.tmp 25) (.tmp 26) 95 rfl w.heap.size 5 i0 dz 1 1 Tryz.underlying95 hi hy0 hy1 hy2 hy3 (by omega) (.slice (some ⟨wr.heap.size, 0, none⟩) 1 1) 1 _ rfl OWN0.out wr.heap.size A l.length cap (encDg l) rfl HRD.out (encDg_one l) (by simp only [maxLen]; omega) (by omega) (by simp; omega) ?_; intro v1 w1 hown1 hg1 hat1))
    go_roundw
    case rel =>
     have hk0 : k ≠ 0 := by have := HY.out; omega
     obtain ⟨b, rfl⟩ : ∃ b', b = b' + 1 := ⟨b - 1, by
      rcases Nat.eq_zero_or_pos b with h | h
      ·subst h; omega
      ·omega⟩
     obtain ⟨g1, c1, rfl, _, _⟩ := hown1.form (by omega)
     have hdd : dig (b + 1) k ++ l = dgs x := by
      rcases HREL.out with ⟨h, _⟩ | ⟨_, h⟩
      ·exact absurd h hsp0
      ·exact h
     refine ⟨k / 10, (k % 10) :: l, b, by rw [HQ10.out], by omega, by simp; omega, by omega, ?_, .inr ⟨by simp, ?_⟩, ⟨_, _, by rw [List.length_cons, Nat.add_comm]⟩, ?_, (HBR.out.alloc HBR.out.size _).grown hg1 (by simp; omega) fun g hg => ?_⟩
     ·rw [Nat.pow_succ] at hkb
      omega
     ·rw [<- hdd, dig_succ, if_neg hk0]
      simp
     ·rw [HDG.out] at hown1
      rw [List.length_cons, Nat.add_comm l.length 1]
      exact hown1
     ·have : wr.heap.size = g := by simpa [Value.ownBlock] using hg
      have := HBR.out.size
      omega
    case measure =>
     obtain ⟨g1, c1, rfl, _, _⟩ := hown1.form (by omega)
     have hl0 : l.length ≠ 0 := fun h => hsp0 (List.length_eq_zero_iff.1 h)
     have hk0 : k ≠ 0 := by have := HY.out; omega
     rw [HQ10.out, <- HY.out]
     simp only [intOf, lenV]
     have h1l : ¬ 1 + l.length = 0 := by omega
     simp only [h1l, hl0, if_false]
     omega
   ·have hkx : k = x := by
     rcases HREL.out with ⟨_, h, _⟩ | ⟨h, _⟩
     ·exact h
     ·exact absurd rfl h
    have hfin : dig 19 (k / 10) ++ [k % 10] = dgs x := by
     subst hkx
     unfold dgs
     by_cases h0 : k = 0
     ·rw [if_pos h0, h0, show (0 : Nat) / 10 = 0 by rfl, dig_zero]
      rfl
     ·rw [if_neg h0, dig_succ 19 k, if_neg h0]
    have h19 : k / 10 < 10 ^ 19 := by
     have : (1000 : Nat) <= 10 ^ 19 := by decide
     omega
    have HFIN := lhi hfin
    clear hfin hkx
    by_cases hy1' : 0 < y
    ·go_wp2_with (fail)
     go_roundw
     case rel =>
      have HO0 := OWN0.out
      rw [HDG.out] at HO0
      refine ⟨k / 10, [k % 10], 19, by rw [HQ10.out], by omega, by show 1 <= 40 - 2 * 19; omega, by omega, h19, .inr ⟨by simp, HFIN.out⟩, ⟨_, _, rfl⟩, ?_, ?_⟩
      ·rw [HDG.out]; exact HO0
      ·exact HBR.out.alloc HBR.out.size _
     case measure =>
      have h := HY.out
      have h3 : y.toNat = k := by omega
      have h4 : 0 < k := by omega
      rw [HQ10.out]
      simp only [intOf, lenV, h3]
      simp
      omega
    ·have y0 : y = 0 := by omega
     have k0 : k = 0 := by have := HY.out; omega
     subst y0 k0
     go_wp2_with (fail)
     go_roundw
     case rel =>
      refine ⟨0, [0], 19, rfl, by omega, by show 1 <= 40 - 2 * 19; omega, by omega, h19, .inr ⟨by simp, HFIN.out⟩, ⟨_, _, rfl⟩, OWN0.out, HBR.out.alloc HBR.out.size _⟩
     case measure =>
      simp [intOf, lenV]
  ·have hk0 : k = 0 := by omega
   have hl0 : l.length ≠ 0 := by omega
   subst hk0
   have hln : l ≠ [] := fun h => hl0 (by rw [h]; rfl)
   have hdd : l = dgs x := by
    rcases hrel with ⟨h, _⟩ | ⟨_, h⟩
    ·exact absurd h hln
    ·rw [dig_zero] at h
     exact h
   have hcv := cv_digits hln (by rw [hdd]; exact dgs_lt x) HO.out
   have hl1 : ((l.length : Int) == 0) = false := beq_eq_false_iff_ne.2 (by omega)
   have hl2 : 0 < l.length := by omega
   have HDD := lhi hdd
   clear hdd hrel
   go_wp2_with (fail)
   go_ret
   rw [<- HDD.out]
   exact ⟨rfl, HBR.out⟩
end
section
open Go.RowKit
set_option maxHeartbeats 4000000
theorem rowT_blk {w : World} {base g n cap k : Nat} {t : TypeId} {cs : Array Value} {C : Nat -> Nat -> Value} (h : Blk w g t cs) (hb : base <= g) (hn : n <= cap) (hC : ∀ i j, i < n -> j < k -> cs[i * k + j]? = some (C i j)) : RowT w base t k (.slice (some ⟨g, 0, none⟩) n cap) n C :=
 ⟨_, _, rfl, hn, fun _ => ⟨g, 0, cs, rfl, hb, h, fun i j hi hj => by rw [Nat.zero_add]; exact hC i j hi hj⟩⟩
theorem new_stv {w : World} {base g gm n : Nat} (hg : base <= g) (hgm : base <= gm) (hI : Blk w g 93 #[.int .i64 1, .bool true, .slice none 0 0, .string ⟨#[]⟩]) (hM : Blk w gm 3 (zerosA n)) :
  StV w base (.slice (some ⟨g, 0, none⟩) 1 1) (.slice none 0 0) (.slice (some ⟨gm, 0, none⟩) n n) (fun _ => .slice none 0 0) (newS n) := by
 refine ⟨?_, fun i hi => ?_, RowT.nil_ _ _ _ _ _, ?_⟩
 ·refine rowT_blk hI hg (Nat.le_refl _) fun i j hi hj => ?_
  have hi' : i < 1 := hi
  obtain rfl : i = 0 := by omega
  have : j = 0 ∨ j = 1 ∨ j = 2 ∨ j = 3 := by omega
  rcases this with rfl | rfl | rfl | rfl <;> rfl
 ·have hi' : i < 1 := hi
  obtain rfl : i = 0 := by omega
  exact RowT.nil_ _ _ _ _ _
 ·have hl : (newS n).made.length = n := List.length_replicate ..
  rw [hl]
  refine rowT_blk hM hgm (Nat.le_refl _) fun i j hi hj => ?_
  obtain rfl : j = 0 := by omega
  have e : madC (newS n) i 0 = .int .i64 0 := by
   show Value.int .i64 ((List.replicate n (0 : Int)).getD i 0) = _
   rw [List.getD_eq_getElem?_getD, List.getElem?_replicate]
   split <;> rfl
  rw [e]
  unfold zerosA
  simp [hi]
theorem path_all : ((List.range 5).all fun j => decide ((⟨#[47, 119]⟩ : ByteArray) ++ strD (dgs j) = pathW j) && decide ((⟨#[47, 119]⟩ : ByteArray) ++ strD (dgs j) ++ ⟨#[47, 115, 97, 109, 101]⟩ = pathS j)) = true := by kernel_rfl
theorem dec_all : ((List.range 10).all fun j => decide ((strD (dgs j)).size = 1)) = true := by kernel_rfl
theorem dec_one {j : Nat} (h : j < 5) : (strD (dgs j)).size = 1 := of_decide_eq_true (all_range dec_all (show j < 10 by omega))
theorem path_W {j : Nat} (h : j < 5) : (⟨#[47, 119]⟩ : ByteArray) ++ strD (dgs j) = pathW j /\ (⟨#[47, 119]⟩ : ByteArray) ++ strD (dgs j) ++ ⟨#[47, 115, 97, 109, 101]⟩ = pathS j := by
 have := all_range path_all h
 simp only [Bool.and_eq_true, decide_eq_true_eq] at this
 exact this
def IsSl (v : Value) : Prop := ∃ a b c, v = .slice a b c
def MkR (w : World) (sb : Nat) (iv ov mv : Value) (k j : Nat) (s : Value) (wx : World) : Prop := ∃ (ob : Nat) (iv1 ov1 mv1 : Value) (ev1 : Nat -> Value),
 s = .pointer (some ⟨ob, 0, none⟩) /\ IsSl iv1 /\ IsSl ov1 /\ IsSl mv1 /\ Blk wx ob 30 #[iv1, ov1, mv1] /\ StV wx 0 iv1 ov1 mv1 ev1 (Sm k (j + 1)) /\ Blk wx sb 30 #[iv, ov, mv] /\ ob ≠ sb /\ Below w.heap.size w wx
def w3F (W : World) (ob : Nat) (a1 a2 a3 : Value) : World := ((W.setCell ⟨ob, 0, none⟩ a1).setCell ⟨ob, 1, none⟩ a2).setCell ⟨ob, 2, none⟩ a3
def w9F (W : World) (ob xb : Nat) (a1 a2 a3 : Value) : World := ((((((w3F W ob a1 a2 a3).setCell ⟨xb, 0, none⟩ (.int .i64 0)).setCell ⟨xb, 1, none⟩ (.int .i64 0)).setCell ⟨xb, 2, none⟩ (.int .i64 0)).setCell ⟨xb, 3, none⟩ (.bool false)).setCell ⟨xb, 4, none⟩ (.string ⟨#[]⟩)).setCell ⟨xb, 5, none⟩ (.slice none 0 0)
theorem blk3c {w : World} {g : Nat} {t : TypeId} {a b c : Value} (h : Blk w g t #[a, b, c]) : (w.cell? ⟨g, 0, none⟩ = some a /\ w.cell? ⟨g, 1, none⟩ = some b /\ w.cell? ⟨g, 2, none⟩ = some c) /\ w.frozen? ⟨g, 0, none⟩ = false /\ w.frozen? ⟨g, 1, none⟩ = false /\ w.frozen? ⟨g, 2, none⟩ = false :=
 ⟨⟨h.cell 0, h.cell 1, h.cell 2⟩, h.frozen 0, h.frozen 1, h.frozen 2⟩
theorem blk6c {w : World} {g : Nat} {t : TypeId} {a b c d e f : Value} (h : Blk w g t #[a, b, c, d, e, f]) : (w.cell? ⟨g, 0, none⟩ = some a /\ w.cell? ⟨g, 1, none⟩ = some b /\ w.cell? ⟨g, 2, none⟩ = some c /\ w.cell? ⟨g, 3, none⟩ = some d /\ w.cell? ⟨g, 4, none⟩ = some e /\ w.cell? ⟨g, 5, none⟩ = some f) /\ w.frozen? ⟨g, 0, none⟩ = false /\ w.frozen? ⟨g, 1, none⟩ = false /\ w.frozen? ⟨g, 2, none⟩ = false /\ w.frozen? ⟨g, 3, none⟩ = false /\ w.frozen? ⟨g, 4, none⟩ = false /\ w.frozen? ⟨g, 5, none⟩ = false :=
 ⟨⟨h.cell 0, h.cell 1, h.cell 2, h.cell 3, h.cell 4, h.cell 5⟩, h.frozen 0, h.frozen 1, h.frozen 2, h.frozen 3, h.frozen 4, h.frozen 5⟩
structure MkE (wr : World) (xb : Nat) (w3 w9 : World) (R : World -> Prop) : Prop where
 x3 : Blk w3 xb 41 #[.int .i64 0, .int .i64 0, .int .i64 0, .bool false, .string ⟨#[]⟩, .slice none 0 0]
 b3 : Below wr.heap.size wr w3
 b9 : Below wr.heap.size wr w9
 r : R w9
theorem mk_round {w wr W : World} {ob xb sb k j : Nat} {iv ov mv : Value} {ev1 : Nat -> Value} (hw : Below w.heap.size w wr) (hb : Below wr.heap.size wr W) (hO : Blk W ob 30 #[.slice none 0 0, .slice none 0 0, .slice none 0 0]) (hX : Blk W xb 41 #[.int .i64 0, .int .i64 0, .int .i64 0, .bool false, .string ⟨#[]⟩, .slice none 0 0])
  (hol : wr.heap.size <= ob) (hxl : wr.heap.size <= xb) (hox : ob ≠ xb) (hso : sb ≠ ob) (hsx : sb ≠ xb) (hS : Blk wr sb 30 #[iv, ov, mv]) {iv1 ov1 mv1 : Value} (hV : StV W 0 iv1 ov1 mv1 ev1 (Sm k (j + 1))) (a1 a2 a3 : Value) (h1 : IsSl a1) (h2 : IsSl a2) (h3 : IsSl a3) (e1 : a1 = iv1 := by rfl) (e2 : a2 = ov1 := by rfl) (e3 : a3 = mv1 := by rfl) :
  MkE wr xb (w3F W ob a1 a2 a3) (w9F W ob xb a1 a2 a3) (MkR w sb iv ov mv k j (.pointer (some ⟨ob, 0, none⟩))) := by
 subst e1 e2 e3
 have hS0 := Blk.of_heap (hb.block _ hS.lt) hS
 have b3 := ((hb.setCell (p := ⟨ob, 0, none⟩) hol a1).setCell (p := ⟨ob, 1, none⟩) hol a2).setCell (p := ⟨ob, 2, none⟩) hol a3
 have b9 := (((((b3.setCell (p := ⟨xb, 0, none⟩) hxl (.int .i64 0)).setCell (p := ⟨xb, 1, none⟩) hxl (.int .i64 0)).setCell (p := ⟨xb, 2, none⟩) hxl (.int .i64 0)).setCell (p := ⟨xb, 3, none⟩) hxl (.bool false)).setCell (p := ⟨xb, 4, none⟩) hxl (.string ⟨#[]⟩)).setCell (p := ⟨xb, 5, none⟩) hxl (.slice none 0 0)
 have O1 := hO.set_ 0 a1
 have O2 := O1.set_ 1 a2
 have O3 := O2.set_ 2 a3
 have X3 := ((hX.far (p := ⟨ob, 0, none⟩) (Ne.symm hox) a1).far (p := ⟨ob, 1, none⟩) (Ne.symm hox) a2).far (p := ⟨ob, 2, none⟩) (Ne.symm hox) a3
 have V3 := ((hV.far hO (by decide) (by decide) (by decide) (by decide) 0 a1).far O1 (by decide) (by decide) (by decide) (by decide) 1 a2).far O2 (by decide) (by decide) (by decide) (by decide) 2 a3
 have S3 := ((hS0.far (p := ⟨ob, 0, none⟩) hso a1).far (p := ⟨ob, 1, none⟩) hso a2).far (p := ⟨ob, 2, none⟩) hso a3
 have X4 := X3.set_ 0 (.int .i64 0)
 have X5 := X4.set_ 1 (.int .i64 0)
 have X6 := X5.set_ 2 (.int .i64 0)
 have X7 := X6.set_ 3 (.bool false)
 have X8 := X7.set_ 4 (.string ⟨#[]⟩)
 have V9 := (((((V3.far X3 (by decide) (by decide) (by decide) (by decide) 0 (.int .i64 0)).far X4 (by decide) (by decide) (by decide) (by decide) 1 (.int .i64 0)).far X5 (by decide) (by decide) (by decide) (by decide) 2 (.int .i64 0)).far X6 (by decide) (by decide) (by decide) (by decide) 3 (.bool false)).far X7 (by decide) (by decide) (by decide) (by decide) 4 (.string ⟨#[]⟩)).far X8 (by decide) (by decide) (by decide) (by decide) 5 (.slice none 0 0)
 have O9 := (((((O3.far (p := ⟨xb, 0, none⟩) hox (.int .i64 0)).far (p := ⟨xb, 1, none⟩) hox (.int .i64 0)).far (p := ⟨xb, 2, none⟩) hox (.int .i64 0)).far (p := ⟨xb, 3, none⟩) hox (.bool false)).far (p := ⟨xb, 4, none⟩) hox (.string ⟨#[]⟩)).far (p := ⟨xb, 5, none⟩) hox (.slice none 0 0)
 have S9 := (((((S3.far (p := ⟨xb, 0, none⟩) hsx (.int .i64 0)).far (p := ⟨xb, 1, none⟩) hsx (.int .i64 0)).far (p := ⟨xb, 2, none⟩) hsx (.int .i64 0)).far (p := ⟨xb, 3, none⟩) hsx (.bool false)).far (p := ⟨xb, 4, none⟩) hsx (.string ⟨#[]⟩)).far (p := ⟨xb, 5, none⟩) hsx (.slice none 0 0)
 exact ⟨X3, b3, b9, ob, a1, a2, a3, ev1, rfl, h1, h2, h3, O9, V9, S9, Ne.symm hso, hw.trans (b9.mono hw.size)⟩
def MkS (w : World) (sb k j : Nat) (wr : World) : Prop := ∃ iv ov mv ev, IsSl iv /\ IsSl ov /\ IsSl mv /\ Blk wr sb 30 #[iv, ov, mv] /\ StV wr 0 iv ov mv ev (Sm k j) /\ Below w.heap.size w wr /\ w.heap.size <= sb
end
section
open Go.RowKit
set_option maxHeartbeats 1000000
theorem cntT_true : ∀ k, cntT (fun _ => true) k = k
 | 0 => rfl
 | k + 1 => by unfold cntT; rw [cntT_true k]; simp
theorem dI_root {S : St} (h : ∀ i, 0 < i -> i < S.inodes.length -> (S.ino i).ents = []) (D : DkT) : ∀ n, 0 < n -> n <= S.inodes.length -> dI S D n = dB S 0 D 8
 | 1, _, _ => rfl
 | n + 2, _, hn => by
  show dB S (n + 1) (dI S D (n + 1)) 8 = _
  rw [dI_root h D (n + 1) (by omega) (by omega)]
  funext num b
  show (if num = S.num (n + 1) /\ b < (8 : Nat) /\ bkItems S (S.ino (n + 1)).ents b.toNat ≠ [] then _ else _) = _
  rw [if_neg]
  rintro ⟨-, -, q⟩
  rw [h (n + 1) (by omega) (by omega)] at q
  exact q rfl
def smB (k : Nat) : Bool := ((List.range (Sm k k).inodes.length).all fun i => decide (i = 0) || decide (((Sm k k).ino i).ents = [])) && ((List.range (Sm k k).inodes.length).all fun i => (Sm k k).dir i)
 && ((List.range 8).all fun b => decide ((bkItems (Sm k k) ((Sm k k).ino 0).ents b).map (fun (i : Item) => (i.name, i.num, i.dir)) = (dmRoot k (b : Nat)).map fun (i : Item) => (i.name, i.num, i.dir)))
theorem sm_ball : ((List.range 4).all fun q => smB (q + 2)) = true := by kernel_rfl
theorem sm_B {k : Nat} (hk : 2 <= k /\ k <= 5) : smB k = true := by
 have h := all_range sm_ball (i := k - 2) (by omega)
 have e : k - 2 + 2 = k := by omega
 simpa only [e] using h
theorem items_eq : ∀ {l m : List Item}, l.map (fun (i : Item) => (i.name, i.num, i.dir)) = m.map (fun (i : Item) => (i.name, i.num, i.dir)) -> l = m
 | [], [], _ => rfl
 | x :: l, y :: m, h => by
  simp only [List.map_cons, List.cons.injEq, Prod.mk.injEq] at h
  obtain ⟨⟨h1, h2, h3⟩, h4⟩ := h
  rw [items_eq h4]
  obtain ⟨a, b, c⟩ := x
  obtain ⟨a', b', c'⟩ := y
  simp only at h1 h2 h3
  rw [h1, h2, h3]
 | [], _ :: _, h => by simp at h
 | _ :: _, [], h => by simp at h
theorem root_len (k : Nat) (b : Int) : (dmRoot k b).length <= k := by
 unfold dmRoot
 rw [List.length_map]
 exact Nat.le_trans (List.length_filter_le _ _) (by simp)
theorem root_num {k : Nat} (hk : k <= 5) {b : Int} {x : Item} (hx : x ∈ dmRoot k b) : 1 <= x.num /\ x.num <= 257 := by
 unfold dmRoot at hx
 obtain ⟨i, hi, rfl⟩ := List.mem_map.1 hx
 have := List.mem_range.1 (List.mem_filter.1 hi).1
 simp only
 omega
theorem qm_load {k : Nat} (hk : 2 <= k /\ k <= 5) (dirs : Bool) : Qm k dirs (fun _ => true) (loadM (Sm k k)) := by
 have hI := sm_inv hk k (Nat.le_refl _)
 have hB := sm_B hk
 unfold smB at hB
 simp only [Bool.and_eq_true, List.all_eq_true, decide_eq_true_eq, Bool.or_eq_true] at hB
 obtain ⟨⟨h1, h2⟩, h3⟩ := hB
 have hml : (Sm k k).made.length = k := by simp [Sm]; omega
 have hes : ∀ i, 0 < i -> i < (Sm k k).inodes.length -> ((Sm k k).ino i).ents = [] := fun i h0 hi => by
  rcases h1 i (List.mem_range.2 hi) with q | q
  ·omega
  ·exact q
 have hrt : ∀ b, b < 8 -> bkItems (Sm k k) ((Sm k k).ino 0).ents b = dmRoot k (b : Nat) := fun b hb => items_eq (h3 b (List.mem_range.2 hb))
 have hbk : ∀ i, i < (Sm k k).inodes.length -> ∀ b, b < 8 -> (bkItems (Sm k k) ((Sm k k).ino i).ents b).length <= 1000 /\ ∀ x ∈ bkItems (Sm k k) ((Sm k k).ino i).ents b, 1 <= x.num /\ x.num <= 257 := fun i hi b hb => by
  by_cases e : i = 0
  ·subst e
   rw [hrt b hb]
   exact ⟨by have := root_len k (b : Nat); omega, fun x hx => root_num hk.2 hx⟩
  ·rw [hes i (by omega) hi]
   exact ⟨by simp [bkItems], fun x hx => by simp [bkItems] at hx⟩
 have hil := hI.pos
 obtain ⟨hw1, hw2⟩ := load_words hI (show (Sm k k).opens = [] from rfl)
 have hts : (loadM (Sm k k)).ts = List.replicate k [] := by rw [loadM_ts, hml]
 refine ⟨(loadM_ok (S := Sm k k) hI.small.ni).mono (by rw [cntT_true]; omega), ?_, bz_load hI rfl (fun i hi => h2 i (List.mem_range.2 hi)), by rw [loadM_nm, hml], by rw [hts, List.length_replicate], fun c hc => ?_, hw2, fun c hc => ?_⟩
 ·refine (dk_load hI hbk).congr fun num b hn hb => ?_
  rw [dI_root hes _ _ hil (Nat.le_refl _)]
  unfold dB
  have h0 : (Sm k k).num 0 = 1 := rfl
  rw [h0]
  unfold Dm
  have hbn : ((b.toNat : Nat) : Int) = b := by omega
  by_cases e : num = 1
  ·rw [if_pos e, hrt b.toNat (by omega), hbn]
   by_cases q : dmRoot k b = []
   ·rw [if_neg (fun x => x.2.2 q), q]
   ·rw [if_pos ⟨e, hb.2, q⟩]
  ·rw [if_neg e, if_neg (fun x => e x.1), if_neg (fun x => by simp at x)]
 ·rw [hw1 c (by omega)]
  show (((k : Int) :: List.replicate (k - 1) 0).getD c 0) = madeN k c + (if true = true then 0 else 1)
  rw [if_pos rfl]
  unfold madeN
  cases c with
  | zero => simp
  | succ c =>
   rw [List.getD_cons_succ, List.getD_eq_getElem?_getD, List.getElem?_replicate, if_pos (show c < k - 1 by omega), if_neg (show ¬ c + 1 = 0 by omega)]
   rfl
 ·rw [hts]
  unfold tr
  simp [List.getD_eq_getElem?_getD, List.getElem?_replicate]
  split <;> rfl
theorem Qm.clear {k : Nat} {dirs : Bool} {M : Mem} (h : Qm k dirs (fun _ => true) M) (c : Nat) : Qm k dirs (fun _ => true) (M.clear c) := by
 refine ⟨h.ok.clear c, h.dk.clear c, h.bz.clear c, h.nl, (by show (M.ts.set _ []).length = k; rw [List.length_set]; exact h.tl), h.md, h.fd, fun c' hc' => ?_⟩
 have hq := h.tr c' hc'
 simp only [if_true] at hq ⊢
 unfold YtkebjgebkneijaaGreat.tr Mem.clear
 simp only [Int.toNat_natCast, List.getD_eq_getElem?_getD, List.getElem?_set]
 by_cases e : c = c'
 ·subst e
  rw [if_pos rfl]
  split <;> rfl
 ·rw [if_neg e]
  unfold YtkebjgebkneijaaGreat.tr at hq
  simpa [List.getD_eq_getElem?_getD] using hq
def callM (dirs : Bool) (c : Nat) : CallV := ⟨kindM dirs, c, 0, 0, 0, pathS c, ⟨#[]⟩, ⟨#[]⟩⟩
def begP (dirs : Bool) (c : Nat) : PV := ⟨callM dirs c, begunV, false, noRes, 0⟩
def PsM (k : Nat) (dirs : Bool) (b : Nat -> Bool) (ps : List PV) : Prop := ps.length = k /\ ∀ c (hc : c < ps.length), (b c = true -> ps[c] = begP dirs c) /\ (b c = false -> ∃ tc, ps[c] = ⟨callM dirs c, .nilIface, true, noRes, tc⟩)
theorem PsM.busy {k : Nat} {dirs : Bool} {b : Nat -> Bool} {ps : List PV} (h : PsM k dirs b ps) : BusyP ps b := fun c hc => by
 cases hb : b c with
 | true => exact .inr ⟨rfl, by rw [(h.2 c hc).1 hb]; exact ⟨_, _, rfl⟩⟩
 | false =>
  obtain ⟨tc, e⟩ := (h.2 c hc).2 hb
  exact .inl ⟨rfl, by rw [e]⟩
theorem PsM.step {k c : Nat} {dirs : Bool} {b : Nat -> Bool} {ps : List PV} (h : PsM k dirs b ps) {tc : Int} : PsM k dirs (less b c) (ps.set c ⟨callM dirs c, .nilIface, true, noRes, tc⟩) := by
 refine ⟨by rw [List.length_set]; exact h.1, fun i hi => ?_⟩
 have hi' : i < ps.length := by simpa using hi
 rw [List.getElem_set]
 by_cases e : c = i
 ·subst e
  rw [if_pos rfl]
  exact ⟨fun q => by simp [less] at q, fun _ => ⟨tc, rfl⟩⟩
 ·rw [if_neg e]
  have : less b c i = b i := by simp [less, Ne.symm e]
  rw [this]
  exact h.2 i hi'
def QM (L : Nat -> Prop) (fb s pb k : Nat) (dirs : Bool) (b : Nat -> Bool) (W : World) : Prop := ∃ M ps, FsAt L W fb s pb M ps /\ PsM k dirs b ps /\ Qm k dirs b M
theorem kindM_or (dirs : Bool) : kindM dirs = 0 ∨ kindM dirs = 1 := by cases dirs <;> simp [kindM]
theorem qm_step {L : Nat -> Prop} {W : World} {fb s pb k c : Nat} {dirs : Bool} {b : Nat -> Bool} (hk : 2 <= k /\ k <= 5) (hc : c < k) (hb : b c = true) (h : QM L fb s pb k dirs b W) :
  Calls Tryz.prog 27 #[.pointer (some ⟨fb, 0, none⟩), .int .i64 (c : Nat)] W fun e w' => e = .returned (.tuple #[.bool true, .int .i64 0]) /\ QM L fb s pb k dirs (less b c) w' /\ Kp L W w' := by
 obtain ⟨M, ps, hf, hp, hq⟩ := h
 have hs := hq.step hk hc hb
 have hcl : c < ps.length := by rw [hp.1]; exact hc
 have hpc := (hp.2 c hcl).1 hb
 have hcc := cntT_less hb hc
 have htr0 := hq.tr c hc
 have htr1 := hs.tr c hc
 rw [hb] at htr0
 simp only [if_true] at htr0
 simp only [less, decide_true, Bool.not_true, Bool.and_false, Bool.false_eq_true, if_false] at htr1
 have hm : 0 <= madeN k c /\ madeN k c < 32 := by unfold madeN; split <;> omega
 have hmd := hq.md c hc
 rw [hb] at hmd
 simp only [if_true, Int.add_zero] at hmd
 have hst : StepC W fb s M (stepM k dirs c M) c (callM dirs c) 99 (.agg #[]) noRes := by
  have h := stepC_create (w := W) (fb := fb) (s := s) (M := M) (M1 := M.see (c : Nat) (wd 1 (nbucket (nmW c) : Nat))) hq.ok (by omega) (k := c) (by rw [hq.tl]; exact hc) hq.dk.fit (cv := callM dirs c) (kindM_or dirs) (by show (pathS c).size <= _; have : (pathS c).size = 8 := rfl; omega) (ns := [nmW c]) (nm := nmSame) (parse_S (by omega)) (by simp) (it := itW c) (hq.walk hk hc) rfl (hq.fresh hk hc hb) (n := madeN k c) hmd hm
  exact h
 refine (fstep_ok hf (m := 20000) (hq.ok.mono (by omega)) (hs.ok.mono (by omega)) (by omega) hcl (c := callM dirs c) (by rw [hpc]; rfl) (by rw [hpc]; rfl) (hs.tl.trans hq.tl.symm) (by rw [htr0, htr1]; simp) (by rw [htr1]; exact Qm.acc_le hk hc) hst).mono ?_
 rintro e w' ⟨rfl, tc, hf', hk'⟩
 exact ⟨rfl, ⟨_, _, hf', hp.step, hs⟩, hk'⟩
theorem fs_all : ((List.range 4).all fun q => ((gK (q + 2) true).fs.all fun i => decide (1 <= i)) && ((gK (q + 2) false).fs.all fun i => decide (1 <= i))) = true := by kernel_rfl
theorem fin_fs {k : Nat} (hk : 2 <= k /\ k <= 5) (dirs : Bool) : ∀ i ∈ (gK k dirs).fs, 1 <= i := by
 have h := all_range fs_all (i := k - 2) (by omega)
 have e : k - 2 + 2 = k := by omega
 simp only [e, Bool.and_eq_true, List.all_eq_true, decide_eq_true_eq] at h
 cases dirs
 ·exact h.2
 ·exact h.1
theorem fin_data {k : Nat} {dirs : Bool} {b : Nat -> Bool} {M : Mem} (h : Qm k dirs b M) (hk : 2 <= k /\ k <= 5) (hb : ∀ c, c < k -> b c = false) (s : Nat) : DataC M s (fun i => (filesO (gK k dirs).fs (opsTo M k) i).isSome = true) (fun _ => ⟨#[]⟩) := by
 intro K W num hn hM
 have hn : (filesO (gK k dirs).fs (opsTo M k) num).isSome = true := hn
 rw [ops_none h.fd (by omega)] at hn
 have hm := filesO_has.1 hn
 have h1 := fin_fs hk dirs num hm
 have h2 := (fin_gather h hb hk).2.2.2 num hm
 obtain ⟨q1, q2, q3⟩ := h.bz.base (num := num) ⟨h1, h2.2⟩
 exact data_none hM h.ok (by omega) ⟨h1, h2.2⟩ q1 q2 q3
theorem makers_state {L : Nat -> Prop} {W : World} {fb s pb k : Nat} {dirs : Bool} {b : Nat -> Bool} {M : Mem} {ps : List PV} (hk : 2 <= k /\ k <= 5) (hb : ∀ c, c < k -> b c = false) (hf : FsAt L W fb s pb M ps) (hp : PsM k dirs b ps) (hq : Qm k dirs b M) :
  Calls Tryz.prog 19 #[.pointer (some ⟨fb, 0, none⟩)] W fun e w' => (∃ iv ov mv ev, e = .returned (.tuple #[.agg #[iv, ov, mv], .int .i64 0]) /\ StV w' 0 iv ov mv ev (finS k dirs)) /\ FsAt L w' fb s pb M ps /\ Kw L W w' := by
 obtain ⟨g1, g2, g3, g4⟩ := fin_gather hq hb hk
 have hle := cntT_le b k
 have h := State_ok hf (fun c hc => by
  obtain ⟨tc, e⟩ := (hp.2 c hc).2 (hb c (by have := hp.1; omega))
  rw [e]) hq.ok (by omega) hq.dk.fit g1 g3 g2 (fun _ => ⟨#[]⟩) (fun c q hc hq' => by
  rw [hq.fd c q (by have := hp.1; omega) hq']; omega) g4 (by rw [hp.1]; exact fin_data hq hk hb s)
 refine h.mono ?_
 rintro e w' ⟨⟨iv, ov, mv, ev, S, rfl, hst, his⟩, h2, h3⟩
 rw [hp.1] at his
 obtain rfl := fin_state hq hb hk his
 exact ⟨⟨iv, ov, mv, ev, rfl, hst⟩, h2, h3⟩
theorem acc_len (k : Nat) (dirs : Bool) (c : Nat) : (accM k dirs c).length <= 8796093022208 := by
 have : (accM k dirs c).length <= 6 := by cases dirs <;> simp [accM, accC, kindM]
 omega
theorem ints_row {w wr W : World} {A : Option Addr} {len cap : Nat} {xs : List Int} (h : Ints w A len cap xs) (hb : Below w.heap.size w wr) (hk : Kp (fun b => b < w.heap.size) wr W) : RowAt W (.slice A len cap) len 1 (fun i _ => .int .i64 (nth xs i)) := by
 refine ⟨_, _, rfl, h.2.1, fun h0 => ?_⟩
 obtain ⟨g, off, hA, hc⟩ := h.2.2.2.2 h0
 refine ⟨g, off, hA, fun i j hi hj => ?_⟩
 obtain rfl : j = 0 := by omega
 have hl := World.block_lt_of_cell? _ _ (hc i hi)
 have h1 : wr.cell? ⟨g, off + i, none⟩ = w.cell? ⟨g, off + i, none⟩ := hb.cell hl
 have h2 : W.cell? ⟨g, off + i, none⟩ = wr.cell? ⟨g, off + i, none⟩ := hk.k.cell (p := ⟨g, off + i, none⟩) hl
 rw [Nat.mul_one, Nat.add_zero]
 exact h2.trans (h1.trans (hc i hi))
end
section
open Go.RowKit
set_option maxHeartbeats 400000
def Own (w : World) (g k : Nat) : Prop := ∃ cur : Array Value, Blk w g 3 cur /\ k <= cur.size /\ ∀ j, j < k -> ∃ x : Int, cur[j]? = some (.int .i64 x)
theorem Own.cell {w : World} {g k : Nat} (h : Own w g k) {j : Nat} (hj : j < k) : ∃ x : Int, w.cell? ⟨g, j, none⟩ = some (.int .i64 x) := by
 obtain ⟨cur, hb, _, hc⟩ := h
 obtain ⟨x, hx⟩ := hc j hj
 exact ⟨x, (hb.cell j).trans hx⟩
theorem Own.frozen {w : World} {g k : Nat} (h : Own w g k) (j : Nat) : w.frozen? ⟨g, j, none⟩ = false := by
 obtain ⟨cur, hb, _⟩ := h
 exact hb.frozen j
theorem Own.set {w : World} {g k : Nat} (h : Own w g k) {j : Nat} (hj : j < k) (x : Int) : Own (w.setCell ⟨g, j, none⟩ (.int .i64 x)) g k := by
 obtain ⟨cur, hb, hs, hc⟩ := h
 refine ⟨_, hb.set_ j _, by simpa using hs, fun i hi => ?_⟩
 by_cases e : j = i
 ·subst e
  exact ⟨x, by simp [show j < cur.size by omega]⟩
 ·obtain ⟨y, hy⟩ := hc i hi
  exact ⟨y, by rw [Array.getElem?_setIfInBounds, if_neg e]; exact hy⟩
end
end Go.Proofs.YtkebjgebkneijaaGreat
