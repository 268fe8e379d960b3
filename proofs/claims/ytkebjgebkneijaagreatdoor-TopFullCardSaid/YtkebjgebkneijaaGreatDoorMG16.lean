/- Texts of one's own that a claim's last text rests on: NoP1 NoP2 Ml1 Ml2 Ml3 Ml4 Ml5 Ml6 Ml8 Ml9 Ml10 Ml11. -/
import Derived.Test.YtkebjgebkneijaaGreatDoorMG15
import Derived.Lib.Bytealg
import Derived.Laws.Externs
import Derived.Test.YtkebjgebkneijaaGreatDoorMG12
import Derived.Test.YtkebjgebkneijaaGreatDoorMG6
import Derived.BigQuiet
set_option linter.unusedVariables false
set_option linter.unusedSimpArgs false
namespace Go.Proofs.YtkebjgebkneijaaGreatDoor
section
set_option maxHeartbeats 1000000
theorem mem_add1 {F : List Int} {x y : Int} : y ∈ add1 F x ↔ y ∈ F ∨ y = x := by
 unfold add1
 by_cases h : F.contains x = true
 ·rw [if_pos h]
  have h2 : x ∈ F := by simpa using h
  exact ⟨Or.inl, fun q => q.elim id fun e => e ▸ h2⟩
 ·rw [if_neg h]; simp
theorem mem_addAll {y : Int} : ∀ {es F : List Int}, y ∈ addAll F es ↔ y ∈ F ∨ y ∈ es
 | [], F => by simp [addAll]
 | e :: es, F => by
  have h := mem_addAll (y := y) (es := es) (F := add1 F e)
  show y ∈ addAll (add1 F e) es ↔ _
  rw [h, mem_add1, List.mem_cons, or_assoc]
theorem add1_pre (F : List Int) (x : Int) : F <+: add1 F x := by
 unfold add1
 split
 ·exact List.prefix_rfl
 ·exact List.prefix_append _ _
theorem addAll_pre : ∀ (es F : List Int), F <+: addAll F es
 | [], _ => List.prefix_rfl
 | e :: es, F => (add1_pre F e).trans (addAll_pre es (add1 F e))
theorem addAll_meas {U : List Int} : ∀ (es F : List Int), (∀ x ∈ es, x ∈ U) -> (addAll F es).length + out U (addAll F es) <= F.length + out U F
 | [], _, _ => Nat.le_refl _
 | e :: es, F, h => by
  have h1 := addAll_meas es (add1 F e) fun x hx => h x (List.mem_cons_of_mem _ hx)
  have h2 : (add1 F e).length + out U (add1 F e) <= F.length + out U F := by
   unfold add1
   by_cases hc : F.contains e = true
   ·rw [if_pos hc]; exact Nat.le_refl _
   ·rw [if_neg hc]; exact add1_out (h e (List.mem_cons_self ..)) (by simpa using hc)
  exact Nat.le_trans h1 h2
theorem firstIx_some {S : St} {x : Int} {i : Nat} (h : firstIx S x = some i) : i < S.inodes.length /\ S.num i = x := by
 unfold firstIx at h
 have h1 := List.find?_some h
 have h2 := List.mem_of_find?_eq_some h
 exact ⟨by simpa using h2, by simpa using h1⟩
theorem kids_univ {S : St} {x y : Int} (h : y ∈ kids S x) : y ∈ univ S := by
 unfold kids at h
 cases hf : firstIx S x with
 | none => rw [hf] at h; cases h
 | some i =>
  rw [hf] at h
  have hi := (firstIx_some hf).1
  simp only at h
  split at h
  ·unfold univ
   rw [List.mem_flatMap]
   exact ⟨i, by simpa using hi, h⟩
  ·cases h
def ClosedTo (S : St) (F : List Int) (p : Nat) : Prop := ∀ j x, j < p -> F[j]? = some x -> ∀ y ∈ kids S x, y ∈ F
theorem bfs_closed (S : St) : ∀ (f : Nat) (F : List Int) (p : Nat), p <= F.length -> F.length + out (univ S) F < p + f -> ClosedTo S F p ->
  (∀ x ∈ F, x ∈ bfs S f F p) /\ ∀ x ∈ bfs S f F p, ∀ y ∈ kids S x, y ∈ bfs S f F p
 | 0, F, p, hp, hm, _ => absurd hm (by omega)
 | f + 1, F, p, hp, hm, hc => by
  unfold bfs
  cases hx : F[p]? with
  | none =>
   have hl : F.length <= p := by simpa using hx
   show (∀ x ∈ F, x ∈ F) /\ ∀ x ∈ F, ∀ y ∈ kids S x, y ∈ F
   refine ⟨fun x h => h, fun x h y hy => ?_⟩
   obtain ⟨j, hj, e⟩ := List.getElem_of_mem h
   exact hc j x (by omega) (by rw [List.getElem?_eq_getElem hj, e]) y hy
  | some x =>
   have hl : p < F.length := by
    rcases Nat.lt_or_ge p F.length with q | q
    ·exact q
    ·rw [List.getElem?_eq_none q] at hx; cases hx
   have hpre := addAll_pre (kids S x) F
   have hlen := hpre.length_le
   have hms := addAll_meas (U := univ S) (kids S x) F fun y hy => kids_univ hy
   have ih := bfs_closed S f (addAll F (kids S x)) (p + 1) (by omega) (by omega) (fun j z hj hz y hy => by
    have hjl : j < F.length := by omega
    have hz2 : F[j]? = some z := by
     obtain ⟨T, hT⟩ := hpre
     rw [<- hT, List.getElem?_append_left hjl] at hz
     exact hz
    rw [mem_addAll]
    by_cases e : j = p
    ·subst e
     rw [hx] at hz2
     obtain rfl := Option.some.inj hz2
     exact .inr hy
    ·exact .inl (hc j z (by omega) hz2 y hy))
   exact ⟨fun y hy => ih.1 y (mem_addAll.2 (.inl hy)), ih.2⟩
theorem found_closed (S : St) : (1 : Int) ∈ foundF S /\ ∀ x ∈ foundF S, ∀ y ∈ kids S x, y ∈ foundF S := by
 have h := bfs_closed S ((univ S).length + 2) [1] 0 (by simp) (by
  have : out (univ S) [1] <= (univ S).length := List.length_filter_le _ _
  simp only [List.length_singleton]
  omega) (fun j x hj => absurd hj (by omega))
 exact ⟨h.1 1 (by simp), h.2⟩
end
section
set_option maxHeartbeats 1000000
def Edge (S : St) (d y : Int) : Prop := ∃ x ∈ S.inodes, x.num = d /\ x.dir = true /\ ∃ e ∈ x.ents, e.2 = y
inductive Reach (S : St) : Int -> Prop where
 | root : Reach S 1
 | step {d y : Int} : Reach S d -> Edge S d y -> Reach S y
def linksOf (x : Ino) : List Int := if x.dir then x.ents.map (·.2) else []
def links (S : St) : List Int := S.inodes.flatMap linksOf
def Given (made : List Int) (x : Int) : Prop := 2 <= x /\ (x - 2) % 8 < made.length /\ (x - 2) / 8 < made.getD ((x - 2) % 8).toNat 0
structure Inv (S : St) : Prop where
 m1 : 1 <= S.made.length
 m8 : S.made.length <= 8
 mb : ∀ m ∈ S.made, 0 <= m /\ m <= 32
 root : ∃ x, S.inodes[0]? = some x /\ x.num = 1 /\ x.dir = true
 rise : S.inodes.Pairwise (fun x y => x.num < y.num)
 given : ∀ x ∈ S.inodes, x.num ≠ 1 -> Given S.made x.num
 isDir : ∀ x ∈ S.inodes, x.dir = true -> x.data.size = 0
 isFile : ∀ x ∈ S.inodes, x.dir = false -> x.ents = []
 dat : ∀ x ∈ S.inodes, x.data.size <= 256
 nam : ∀ x ∈ S.inodes, ∀ e ∈ x.ents, ncheck e.1 = 0
 goal : ∀ x ∈ S.inodes, ∀ e ∈ x.ents, e.2 ≠ 1 /\ ∃ y ∈ S.inodes, y.num = e.2
 up : ∀ x ∈ S.inodes, x.ents.Pairwise (fun a b => nlt a.1 b.1 = true)
 slots : ∀ x ∈ S.inodes, ∀ q, (x.ents.filter fun e => nbucket e.1 == q).length <= 4
 one : ∀ x ∈ S.inodes, x.dir = true -> x.num ≠ 1 -> (links S).count x.num = 1
 reach : ∀ x ∈ S.inodes, x.dir = true -> Reach S x.num
 file : ∀ x ∈ S.inodes, x.dir = false -> x.num ∈ links S ∨ ∃ o ∈ S.opens, o.2.2 = x.num
 ok : ∀ o ∈ S.opens, 0 <= o.1 /\ o.1 < S.made.length /\ 0 <= o.2.1 /\ o.2.1 < 4 /\ ∃ y ∈ S.inodes, y.num = o.2.2 /\ y.dir = false
 osort : S.opens.Pairwise (fun a b => a.1 < b.1 ∨ a.1 = b.1 /\ a.2.1 < b.2.1)
theorem getD_mem {A : Type} {l : List A} {i : Nat} {d : A} (h : i < l.length) : l.getD i d ∈ l := by
 rw [List.getD_eq_getElem?_getD, List.getElem?_eq_getElem h]
 exact List.getElem_mem h
theorem getD_get {A : Type} {l : List A} {i : Nat} {d : A} (h : i < l.length) : l.getD i d = l[i] := by
 rw [List.getD_eq_getElem?_getD, List.getElem?_eq_getElem h]; rfl
namespace Inv
variable {S : St}
theorem pos (h : Inv S) : 0 < S.inodes.length := by
 obtain ⟨x, hx, _⟩ := h.root
 rcases Nat.lt_or_ge 0 S.inodes.length with q | q
 ·exact q
 ·rw [List.getElem?_eq_none q] at hx; cases hx
theorem ino_mem {i : Nat} (hi : i < S.inodes.length) : S.ino i ∈ S.inodes := getD_mem hi
theorem num_lt (h : Inv S) {i j : Nat} (hj : j < S.inodes.length) (hij : i < j) : S.num i < S.num j := by
 have h1 := List.pairwise_iff_getElem.1 h.rise i j (by omega) hj hij
 unfold St.num St.ino
 rw [getD_get (by omega : i < _), getD_get hj]
 exact h1
theorem num0 (h : Inv S) : S.num 0 = 1 /\ S.dir 0 = true := by
 obtain ⟨x, hx, h1, h2⟩ := h.root
 unfold St.num St.dir St.ino
 rw [List.getD_eq_getElem?_getD, hx]
 exact ⟨h1, h2⟩
theorem num_inj (h : Inv S) {i j : Nat} (hi : i < S.inodes.length) (hj : j < S.inodes.length) (e : S.num i = S.num j) : i = j := by
 rcases Nat.lt_trichotomy i j with q | q | q
 ·have := h.num_lt hj q; omega
 ·exact q
 ·have := h.num_lt hi q; omega
theorem ino_inj (h : Inv S) {x y : Ino} (hx : x ∈ S.inodes) (hy : y ∈ S.inodes) (e : x.num = y.num) : x = y := by
 obtain ⟨i, hi, rfl⟩ := List.getElem_of_mem hx
 obtain ⟨j, hj, rfl⟩ := List.getElem_of_mem hy
 have : i = j := h.num_inj hi hj (by unfold St.num St.ino; rw [getD_get hi, getD_get hj]; exact e)
 subst this; rfl
theorem firstIx_at (h : Inv S) {i : Nat} (hi : i < S.inodes.length) : firstIx S (S.num i) = some i := by
 cases hf : firstIx S (S.num i) with
 | none =>
  unfold firstIx at hf
  rw [List.find?_eq_none] at hf
  exact absurd (hf i (by simpa using hi)) (by simp)
 | some j =>
  have hj := firstIx_some hf
  rw [h.num_inj hj.1 hi hj.2]
theorem firstIx_mem (h : Inv S) {y : Ino} (hy : y ∈ S.inodes) : ∃ i, i < S.inodes.length /\ S.ino i = y /\ firstIx S y.num = some i := by
 obtain ⟨i, hi, e⟩ := List.getElem_of_mem hy
 have h1 : S.ino i = y := by unfold St.ino; rw [getD_get hi, e]
 exact ⟨i, hi, h1, by have := h.firstIx_at hi; unfold St.num at this; rwa [h1] at this⟩
theorem num_bound (h : Inv S) {x : Ino} (hx : x ∈ S.inodes) : 1 <= x.num /\ x.num <= 257 := by
 by_cases e : x.num = 1
 ·omega
 ·obtain ⟨h1, h2, h3⟩ := h.given x hx e
  have h4 : S.made.getD ((x.num - 2) % 8).toNat 0 <= 32 := (h.mb _ (getD_mem (by omega))).2
  have h8 := h.m8
  omega
end Inv
theorem rise_len : ∀ {l : List Ino} {a b : Int}, l.Pairwise (fun x y => x.num < y.num) -> (∀ x ∈ l, a <= x.num /\ x.num <= b) -> a <= b + 1 -> (l.length : Int) <= b + 1 - a
 | [], a, b, _, _, hab => by simp; omega
 | x :: l, a, b, hp, hb, hab => by
  obtain ⟨h1, h2⟩ := List.pairwise_cons.1 hp
  have hx := hb x (List.mem_cons_self ..)
  have ih := rise_len (a := x.num + 1) (b := b) h2 (fun y hy => ⟨by have := h1 y hy; omega, (hb y (List.mem_cons_of_mem _ hy)).2⟩) (by omega)
  simp only [List.length_cons]
  omega
theorem bucket_len {A : Type} (f : A -> Nat) (c : Nat) : ∀ (n : Nat) (l : List A), (∀ x ∈ l, f x < n) -> (∀ q, (l.filter fun x => f x == q).length <= c) -> l.length <= n * c
 | 0, l, h, _ => by
  cases l with
  | nil => simp
  | cons x l => exact absurd (h x (List.mem_cons_self ..)) (by omega)
 | n + 1, l, h, hq => by
  have h1 := bucket_len f c n (l.filter fun x => !(f x == n)) (fun x hx => by
   rw [List.mem_filter] at hx
   have h2 := h x hx.1
   have h3 : f x ≠ n := by simpa using hx.2
   omega) (fun q => by
   refine Nat.le_trans ?_ (hq q)
   rw [List.filter_filter, show (fun a => (f a == q) && !(f a == n)) = fun a => !(f a == n) && (f a == q) from funext fun a => Bool.and_comm _ _, <- List.filter_filter]
   exact List.length_filter_le _ _)
  have h2 := hq n
  have h3 : ∀ l : List A, l.length = (l.filter fun x => f x == n).length + (l.filter fun x => !(f x == n)).length := by
   intro l
   induction l with
   | nil => rfl
   | cons x l ih =>
    rw [List.filter_cons, List.filter_cons]
    cases f x == n <;> simp <;> omega
  have h3 := h3 l
  rw [Nat.succ_mul]
  omega
theorem pair_len : ∀ {l : List (Int × Int × Int)} {a : Int}, l.Pairwise (fun x y => x.1 < y.1 ∨ x.1 = y.1 /\ x.2.1 < y.2.1) -> (∀ o ∈ l, 0 <= o.2.1 /\ o.2.1 < 4 /\ a <= o.1 * 4 + o.2.1 /\ o.1 < 8) -> a <= 32 -> (l.length : Int) <= 32 - a
 | [], a, _, _, ha => by simp; omega
 | x :: l, a, hp, hb, ha => by
  obtain ⟨h1, h2⟩ := List.pairwise_cons.1 hp
  have hx := hb x (List.mem_cons_self ..)
  have ih := pair_len (l := l) (a := x.1 * 4 + x.2.1 + 1) h2 (fun o ho => by
   have h3 := h1 o ho
   have h4 := hb o (List.mem_cons_of_mem _ ho)
   refine ⟨h4.1, h4.2.1, ?_, h4.2.2.2⟩
   rcases h3 with q | ⟨q, q2⟩ <;> omega) (by omega)
  simp only [List.length_cons]
  omega
namespace Inv
variable {S : St}
theorem ni (h : Inv S) : S.inodes.length <= 257 := by
 have := rise_len (a := 1) (b := 257) h.rise (fun x hx => h.num_bound hx) (by omega)
 omega
theorem no (h : Inv S) : S.opens.length <= 32 := by
 have := pair_len (a := 0) (l := S.opens) h.osort (fun o ho => by
  have h1 := h.ok o ho
  have h2 := h.m8
  refine ⟨h1.2.2.1, h1.2.2.2.1, by omega, by omega⟩) (by omega)
 omega
theorem en (h : Inv S) {x : Ino} (hx : x ∈ S.inodes) : x.ents.length <= 32 :=
 bucket_len (fun e : ByteArray × Int => nbucket e.1) 4 8 x.ents (fun _ _ => nbucket_lt _) (h.slots x hx)
theorem small (h : Inv S) : S.small := by
 have h1 := h.ni
 have h2 := h.no
 have h3 := h.m8
 refine ⟨by omega, by omega, by omega, fun i => ?_, fun i => ?_, fun i k => ?_, fun i => ?_⟩
 ·exact getD_case (fun x : Ino => x.ents.length <= 1000) S.inodes noIno (fun x hx => by have := h.en hx; omega) (by decide) i
 ·exact getD_case (fun x : Ino => -1000000 <= x.num /\ x.num <= 1000000) S.inodes noIno (fun x hx => by have := h.num_bound hx; omega) (by decide) i
 ·exact getD_case (fun x : Ino => -1000000 <= (x.ents.getD k (ByteArray.empty, 0)).2 /\ (x.ents.getD k (ByteArray.empty, 0)).2 <= 1000000) S.inodes noIno (fun x hx => getD_case (fun e : ByteArray × Int => -1000000 <= e.2 /\ e.2 <= 1000000) x.ents _ (fun e he => by
   obtain ⟨-, y, hy, e2⟩ := h.goal x hx e he
   have := h.num_bound hy
   omega) (by decide) k) (getD_case (fun e : ByteArray × Int => -1000000 <= e.2 /\ e.2 <= 1000000) [] _ (fun e he => absurd he (by simp)) (by decide) k) i
 ·exact getD_case (fun m : Int => -1000000 <= m /\ m <= 1000000) S.made 0 (fun m hm => by have := h.mb m hm; omega) (by decide) i
end Inv
end
section
open Go.RowKit
set_option maxHeartbeats 1000000
def cmpN (a b : Int) : Int := if a < b then -1 else if b < a then 1 else 0
set_option maxRecDepth 1000000 in
theorem findc_calls (a b : Int) (d : Bool) (A : Option Addr) (n cap : Nat) (s : ByteArray) (w : World) :
  Calls Tryz.prog 106 #[.agg #[.int .i64 a, .bool d, .slice A n cap, .string s], .int .i64 b] w fun e w' => e = .returned (.int .i64 (cmpN a b)) /\ Below w.heap.size w w' := by
 have hb := Below.heap_alloc w (.cells #[.int .i64 a, .bool d, .slice A n cap, .string s] 72)
 have hB := (Below.refl w.heap.size w).alloc (Nat.le_refl _) (.cells #[.int .i64 a, .bool d, .slice A n cap, .string s] 72)
 unfold cmpN
 by_cases h1 : a < b
 ·rw [if_pos h1]
  go_enter Tryz.func106, Tryz.ntmps106
  go_wp2
  go_ret
  exact ⟨rfl, hB⟩
 ·rw [if_neg h1]
  by_cases h2 : b < a
  ·rw [if_pos h2]
   go_enter Tryz.func106, Tryz.ntmps106
   go_wp2
   go_ret
   exact ⟨rfl, hB⟩
  ·rw [if_neg h2]
   go_enter Tryz.func106, Tryz.ntmps106
   go_wp2
   go_ret
   exact ⟨rfl, hB⟩
set_option maxRecDepth 1000000 in
theorem bsI_calls {w : World} {iv ov mv : Value} {ev : Nat -> Value} {S : St} (hS : StM w iv ov mv ev S) (hn : S.inodes.length <= 1000) (x : Int) (hlt : ∀ i j, i < j -> j < S.inodes.length -> S.num i < S.num j) :
  Calls Tryz.prog 105 #[iv, .int .i64 x, .func (.func 106) #[] #[]] w fun e w' => (∃ k : Nat, k <= S.inodes.length /\ (∀ i, i < k -> S.num i < x) /\ (∀ i, k <= i -> i < S.inodes.length -> x <= S.num i) /\ e = .returned (.tuple #[.int .i64 k, .bool (decide (k < S.inodes.length) && (S.num k == x))])) /\ Below w.heap.size w w' := by
 have HS := lhi hS
 have HI := lhi hS.ino
 obtain ⟨A, cap, rfl, hcap, -⟩ := hS.ino
 obtain ⟨n, hnn⟩ : ∃ n, S.inodes.length = n := ⟨_, rfl⟩
 rw [hnn] at hn hlt HI
 rw [hnn]
 have HNN := lhi hnn
 have HLT := lhi hlt
 clear hS hnn hlt hcap
 go_enter Tryz.func105, Tryz.ntmps105
 go_wp2_with (fail)
 go_loopw [9, 10] (fun i j wr => ∃ a b : Nat, i = .int .i64 a /\ j = .int .i64 b /\ a <= b /\ b <= n /\ (∀ i, i < a -> S.num i < x) /\ (∀ i, b <= i -> i < n -> x <= S.num i) /\ Below w.heap.size w wr) (fun i j _ => (intOf j).toNat - (intOf i).toNat)
 case atStart => exact ⟨0, n, rfl, rfl, by omega, Nat.le_refl _, fun i hi => absurd hi (by omega), fun i h1 h2 => absurd h1 (by omega), Below.refl _ _⟩
 case round =>
  obtain ⟨a, b, rfl, rfl, hab, hbn, hlo, hhi, hB⟩ := hrel
  have HLO := lhi hlo
  have HHI := lhi hhi
  have HB := lhi hB
  clear hlo hhi hB
  by_cases hp : a < b
  ·have hp1 : (a : Int) < b := by omega
   obtain ⟨h, hh⟩ : ∃ h : Nat, ((a : Int) + b) / 2 = h := ⟨(a + b) / 2, by omega⟩
   have hha : a <= h /\ h < b := by omega
   have hhn : h < n := by omega
   have hl1 : decide ((h : Int) < n) = true := by simp; omega
   obtain ⟨-, -, g, off, rfl, hcell⟩ := (HI.out.keep HB.out).at_ hhn
   have q0 : wr.cell? ⟨g, off + h * 4, none⟩ = some (.int .i64 (S.num h)) := hcell 0 (by omega)
   have q1 : wr.cell? ⟨g, off + h * 4 + 1, none⟩ = some (.bool (S.dir h)) := hcell 1 (by omega)
   have q2 : wr.cell? ⟨g, off + h * 4 + 2, none⟩ = some (ev h) := hcell 2 (by omega)
   have q3 : wr.cell? ⟨g, off + h * 4 + 3, none⟩ = some (.string (S.dat h)) := hcell 3 (by omega)
   obtain ⟨EA, ecap, hev, -⟩ := HS.out.ent h (by rw [HNN.out]; exact hhn)
   rw [hev] at q2
   have HC := lhi (findc_calls (S.num h) x (S.dir h) EA (S.ne h) ecap (S.dat h) wr)
   have e1 : decide (cmpN (S.num h) x < 0) = decide (S.num h < x) := by
    unfold cmpN
    split
    ·simp [*]
    ·split <;> simp [*]
   obtain ⟨cv, hcv⟩ : ∃ c, cmpN (S.num h) x = c := ⟨_, rfl⟩
   rw [hcv] at HC e1
   clear hcell hev hcv
   by_cases hx : S.num h < x
   ·have e2 : cv < 0 := by simpa [hx] using e1
    clear e1
    go_wp2_with (go_at_call 106; refine HC.out.mono ?_; rintro e w1 ⟨rfl, hb1⟩)
    go_roundw
    case rel => exact ⟨h + 1, b, by simp, rfl, by omega, hbn, fun i hi => by
     by_cases e : i = h
     ·subst e; exact hx
     ·have := HLT.out i h (by omega) hhn; omega, HHI.out, HB.out.trans (hb1.mono HB.out.size)⟩
    case measure =>
     simp only [intOf]
     omega
   ·have e2 : ¬ cv < 0 := by simpa [hx] using e1
    clear e1
    go_wp2_with (go_at_call 106; refine HC.out.mono ?_; rintro e w1 ⟨rfl, hb1⟩)
    go_roundw
    case rel => exact ⟨a, h, rfl, rfl, by omega, by omega, HLO.out, fun i h1 h2 => by
     by_cases e : i = h
     ·subst e; omega
     ·have := HLT.out h i (by omega) h2; omega, HB.out.trans (hb1.mono HB.out.size)⟩
    case measure =>
     simp only [intOf]
     omega
  ·have e : a = b := by omega
   subst e
   by_cases hq : a < n
   ·have hq1 : (a : Int) < n := by omega
    obtain ⟨-, -, g, off, rfl, hcell⟩ := (HI.out.keep HB.out).at_ hq
    have q0 : wr.cell? ⟨g, off + a * 4, none⟩ = some (.int .i64 (S.num a)) := hcell 0 (by omega)
    have q1 : wr.cell? ⟨g, off + a * 4 + 1, none⟩ = some (.bool (S.dir a)) := hcell 1 (by omega)
    have q2 : wr.cell? ⟨g, off + a * 4 + 2, none⟩ = some (ev a) := hcell 2 (by omega)
    have q3 : wr.cell? ⟨g, off + a * 4 + 3, none⟩ = some (.string (S.dat a)) := hcell 3 (by omega)
    obtain ⟨EA, ecap, hev, -⟩ := HS.out.ent a (by rw [HNN.out]; exact hq)
    rw [hev] at q2
    have HC := lhi (findc_calls (S.num a) x (S.dir a) EA (S.ne a) ecap (S.dat a) wr)
    have HE := lhi (show (cmpN (S.num a) x == 0) = (S.num a == x) by
     unfold cmpN
     by_cases h1 : S.num a < x
     ·have : S.num a ≠ x := by omega
      simp [h1, this]
     ·by_cases h2 : x < S.num a
      ·have : S.num a ≠ x := by omega
       simp [h1, h2, this]
      ·have : S.num a = x := by omega
       simp [this])
    obtain ⟨cv, hcv⟩ : ∃ c, cmpN (S.num a) x = c := ⟨_, rfl⟩
    rw [hcv] at HC HE
    clear hcell hev hcv
    go_wp2_with (go_at_call 106; refine HC.out.mono ?_; rintro e w1 ⟨rfl, hb1⟩)
    go_ret2
    exact ⟨⟨a, by omega, HLO.out, HHI.out, by simp [hq, <- HE.out]⟩, HB.out.trans (hb1.mono HB.out.size)⟩
   ·have hq1 : ¬ (a : Int) < n := by omega
    go_wp2_with (fail)
    go_ret2
    exact ⟨⟨a, by omega, HLO.out, HHI.out, by simp [hq]⟩, HB.out⟩
end
section
open Go.RowKit
set_option maxHeartbeats 1000000
def placeF (S : St) (x : Int) : Int := match (List.range S.inodes.length).find? (fun i => S.num i == x) with
 | some k => k
 | none => -1
theorem placeF_at {S : St} {x : Int} {k : Nat} (hk : k < S.inodes.length) (h : S.num k = x) (hlt : ∀ i, i < k -> S.num i ≠ x) : placeF S x = k := by
 have : (List.range S.inodes.length).find? (fun i => S.num i == x) = some k := by
  rw [List.find?_eq_some_iff_getElem]
  refine ⟨by simpa using h, k, by simpa using hk, by simp, fun j hj => ?_⟩
  simpa using hlt j hj
 unfold placeF
 rw [this]
theorem placeF_no {S : St} {x : Int} (h : ∀ i, i < S.inodes.length -> S.num i ≠ x) : placeF S x = -1 := by
 have : (List.range S.inodes.length).find? (fun i => S.num i == x) = none := by
  rw [List.find?_eq_none]
  intro i hi
  simpa using h i (by simpa using hi)
 unfold placeF
 rw [this]
set_option maxRecDepth 1000000 in
theorem find_in {w : World} {sp : Nat} {iv ov mv : Value} {ev : Nat -> Value} {S : St} (hS : StM w iv ov mv ev S) (hn : S.inodes.length <= 1000) (x : Int) (hlt : ∀ i j, i < j -> j < S.inodes.length -> S.num i < S.num j) (h0 : w.cell? ⟨sp, 0, none⟩ = some iv) :
  Calls Tryz.prog 63 #[.pointer (some ⟨sp, 0, none⟩), .int .i64 x] w fun e w' => e = .returned (.int .i64 (placeF S x)) /\ Below w.heap.size w w' := by
 have HC := lhi (bsI_calls hS hn x hlt)
 have HP1 := lhi (fun (k : Nat) h1 h2 h3 => placeF_at (S := S) (x := x) (k := k) h1 h2 h3)
 have HP2 := lhi (fun h => placeF_no (S := S) (x := x) h)
 obtain ⟨A, cap, rfl, -⟩ := hS.ino
 have HLT := lhi hlt
 clear hS hlt
 go_enter Tryz.func63, Tryz.ntmps63
 go_wp2_with (go_at_call 105; refine HC.out.mono ?_; rintro e w1 ⟨⟨k, hk, h1, h2, rfl⟩, hb1⟩; obtain ⟨b, hb⟩ : ∃ b, (decide (k < S.inodes.length) && (S.num k == x)) = b := ⟨_, rfl⟩; rw [hb])
 ·rename_i hnb
  obtain rfl : b = false := by simpa using hnb
  go_ret
  refine ⟨?_, hb1⟩
  show Ending.returned (.int .i64 (-1)) = _
  rw [HP2.out fun i hi e => ?_]
  by_cases hik : i < k
  ·have := h1 i hik; omega
  ·have hkn : k < S.inodes.length := by omega
   have h3 := h2 k (Nat.le_refl _) hkn
   have h4 : S.num k = x := by
    by_cases e2 : k = i
    ·rw [e2]; exact e
    ·have := HLT.out k i (by omega) hi; omega
   simp [hkn, h4] at hb
 ·rename_i hnb
  obtain rfl : b = true := by simpa using hnb
  go_wp2_with (fail)
  go_ret
  simp only [Bool.and_eq_true, decide_eq_true_eq, beq_iff_eq] at hb
  refine ⟨?_, hb1⟩
  show Ending.returned (.int .i64 (k : Int)) = _
  rw [HP1.out k hb.1 hb.2 fun i hi e => by have := h1 i hi; omega]
end
section
open Go.RowKit
set_option maxHeartbeats 1000000
def scmp (a b : ByteArray) : Int := Lib.compareBytes a.data.toList b.data.toList
theorem cmpstr (a b : ByteArray) (w : World) : (callFunc 191 #[.string a, .string b]).run Tryz.prog w = .ok (.value (.int .i64 (scmp a b))) w := by
 rw [run_callFunc_extern Tryz.func191 (by kernel_rfl) (by kernel_rfl) (by kernel_rfl) (e := Extern.BytealgCompare.compare) (by kernel_rfl), Lib.run_compareString]
 rfl
theorem bcmp_calls (a b : ByteArray) (w : World) : Calls Tryz.prog 143 #[.string a, .string b] w fun e w' => e = .returned (.int .i64 (scmp a b)) /\ w' = w := by
 have h := cmpstr a b
 go_enter Tryz.func143, Tryz.ntmps143
 go_wp2
 go_ret
 exact ⟨rfl, rfl⟩
theorem scmp_calls (a b : ByteArray) (w : World) : Calls Tryz.prog 104 #[.string a, .string b] w fun e w' => e = .returned (.int .i64 (scmp a b)) /\ w' = w := by
 go_enter Tryz.func104, Tryz.ntmps104
 go_wp2_with (go_at_call 143; refine (bcmp_calls _ _ _).mono ?_; rintro e w' ⟨rfl, rfl⟩)
 go_ret
 exact ⟨rfl, rfl⟩
set_option maxRecDepth 1000000 in
theorem entryc_calls (a b : ByteArray) (n : Int) (w : World) : Calls Tryz.prog 103 #[.agg #[.string a, .int .i64 n], .string b] w fun e w' => e = .returned (.int .i64 (scmp a b)) /\ Below w.heap.size w w' := by
 have hB := (Below.refl w.heap.size w).alloc (Nat.le_refl _) (.cells #[.string a, .int .i64 n] 141)
 have HB := lhi hB
 clear hB
 go_enter Tryz.func103, Tryz.ntmps103
 go_wp2_with (go_at_call 104; refine (scmp_calls _ _ _).mono ?_; rintro e w' ⟨rfl, h⟩; have h := h.symm; subst h)
 go_ret
 exact ⟨rfl, HB.out⟩
theorem cb_lt : ∀ (x y : List UInt8), Lib.compareBytes x y < 0 ↔ Op.bytesLess x y = true
 | [], [] => by simp [Lib.compareBytes, Op.bytesLess]
 | [], _ :: _ => by simp [Lib.compareBytes, Op.bytesLess]
 | _ :: _, [] => by simp [Lib.compareBytes, Op.bytesLess]
 | a :: x, b :: y => by
  unfold Lib.compareBytes Op.bytesLess
  by_cases h1 : a < b
  ·simp [h1]
  ·by_cases h2 : b < a
   ·have h3 : a ≠ b := fun e => by subst e; exact h1 h2
    simp [h1, h2, h3]
   ·have h3 : a = b := by
     apply UInt8.toNat.inj
     rw [UInt8.lt_iff_toNat_lt] at h1 h2
     omega
    subst h3
    simp [h1, cb_lt x y]
theorem cb_zero : ∀ (x y : List UInt8), Lib.compareBytes x y = 0 ↔ x = y
 | [], [] => by simp [Lib.compareBytes]
 | [], _ :: _ => by simp [Lib.compareBytes]
 | _ :: _, [] => by simp [Lib.compareBytes]
 | a :: x, b :: y => by
  unfold Lib.compareBytes
  by_cases h1 : a < b
  ·have h3 : a ≠ b := fun e => by subst e; rw [UInt8.lt_iff_toNat_lt] at h1; omega
   simp [h1, h3]
  ·by_cases h2 : b < a
   ·have h3 : a ≠ b := fun e => by subst e; exact h1 h2
    simp [h1, h2, h3]
   ·have h3 : a = b := by
     apply UInt8.toNat.inj
     rw [UInt8.lt_iff_toNat_lt] at h1 h2
     omega
    subst h3
    simp [h1, cb_zero x y]
theorem scmp_lt (a b : ByteArray) : scmp a b < 0 ↔ nlt a b = true := by
 unfold scmp nlt
 rw [cb_lt, ByteArray.toList_eq, ByteArray.toList_eq]
theorem scmp_zero (a b : ByteArray) : scmp a b = 0 ↔ a = b := by
 unfold scmp
 rw [cb_zero]
 constructor
 ·intro h
  exact ByteArray.ext (Array.toList_inj.1 h)
 ·rintro rfl; rfl
end
section
open Go.RowKit
set_option maxHeartbeats 1000000
def entL (l : List (ByteArray × Int)) : Nat -> Nat -> Value := fun k j => match j with
 | 0 => .string (l.getD k (ByteArray.empty, 0)).1
 | _ => .int .i64 (l.getD k (ByteArray.empty, 0)).2
def enmL (l : List (ByteArray × Int)) (k : Nat) : ByteArray := (l.getD k (ByteArray.empty, 0)).1
def enuL (l : List (ByteArray × Int)) (k : Nat) : Int := (l.getD k (ByteArray.empty, 0)).2
def RiseL (l : List (ByteArray × Int)) : Prop := ∀ i j, i < j -> j < l.length -> nlt (enmL l i) (enmL l j) = true
set_option maxRecDepth 1000000 in
theorem bsE_calls {w : World} {iv : Value} {l : List (ByteArray × Int)} (hS : RowAt w iv l.length 2 (entL l)) (hn : l.length <= 1000) (x : ByteArray) (hlt : RiseL l) :
  Calls Tryz.prog 102 #[iv, .string x, .func (.func 103) #[] #[]] w fun e w' => (∃ k : Nat, k <= l.length /\ (∀ i, i < k -> nlt (enmL l i) x = true) /\ (∀ i, k <= i -> i < l.length -> nlt (enmL l i) x = false) /\ e = .returned (.tuple #[.int .i64 k, .bool (decide (k < l.length) && decide (enmL l k = x))])) /\ Below w.heap.size w w' := by
 unfold RiseL at hlt
 have HI := lhi hS
 obtain ⟨A, cap, rfl, hcap, -⟩ := hS
 obtain ⟨n, hnn⟩ : ∃ n, l.length = n := ⟨_, rfl⟩
 rw [hnn] at hn hlt HI
 rw [hnn]
 have HNN := lhi hnn
 have HLT := lhi hlt
 clear hnn hlt hcap
 go_enter Tryz.func102, Tryz.ntmps102
 go_wp2_with (fail)
 go_loopw [9, 10] (fun i j wr => ∃ a b : Nat, i = .int .i64 a /\ j = .int .i64 b /\ a <= b /\ b <= n /\ (∀ i, i < a -> nlt (enmL l i) x = true) /\ (∀ i, b <= i -> i < n -> nlt (enmL l i) x = false) /\ Below w.heap.size w wr) (fun i j _ => (intOf j).toNat - (intOf i).toNat)
 case atStart => exact ⟨0, n, rfl, rfl, by omega, Nat.le_refl _, fun i hi => absurd hi (by omega), fun i h1 h2 => absurd h1 (by omega), Below.refl _ _⟩
 case round =>
  obtain ⟨a, b, rfl, rfl, hab, hbn, hlo, hhi, hB⟩ := hrel
  have HLO := lhi hlo
  have HHI := lhi hhi
  have HB := lhi hB
  clear hlo hhi hB
  by_cases hp : a < b
  ·have hp1 : (a : Int) < b := by omega
   obtain ⟨h, hh⟩ : ∃ h : Nat, ((a : Int) + b) / 2 = h := ⟨(a + b) / 2, by omega⟩
   have hha : a <= h /\ h < b := by omega
   have hhn : h < n := by omega
   have hl1 : decide ((h : Int) < n) = true := by simp; omega
   obtain ⟨-, -, g, off, rfl, hcell⟩ := (HI.out.keep HB.out).at_ hhn
   have q0 : wr.cell? ⟨g, off + h * 2, none⟩ = some (.string (enmL l h)) := hcell 0 (by omega)
   have q1 : wr.cell? ⟨g, off + h * 2 + 1, none⟩ = some (.int .i64 (enuL l h)) := hcell 1 (by omega)
   have HC := lhi (entryc_calls (enmL l h) x (enuL l h) wr)
   have e1 : scmp (enmL l h) x < 0 ↔ nlt (enmL l h) x = true := scmp_lt _ _
   obtain ⟨cv, hcv⟩ : ∃ c, scmp (enmL l h) x = c := ⟨_, rfl⟩
   rw [hcv] at HC e1
   clear hcell hcv
   by_cases hx : nlt (enmL l h) x = true
   ·have e2 : cv < 0 := e1.2 hx
    clear e1
    go_wp2_with (go_at_call 103; refine HC.out.mono ?_; rintro e w1 ⟨rfl, hb1⟩)
    go_roundw
    case rel => exact ⟨h + 1, b, by simp, rfl, by omega, hbn, fun i hi => by
     by_cases e : i = h
     ·subst e; exact hx
     ·exact nlt_trans (HLT.out i h (by omega) hhn) hx, HHI.out, HB.out.trans (hb1.mono HB.out.size)⟩
    case measure =>
     simp only [intOf]
     omega
   ·have e2 : ¬ cv < 0 := fun h => hx (e1.1 h)
    clear e1
    go_wp2_with (go_at_call 103; refine HC.out.mono ?_; rintro e w1 ⟨rfl, hb1⟩)
    go_roundw
    case rel => exact ⟨a, h, rfl, rfl, by omega, by omega, HLO.out, fun i h1 h2 => by
     by_cases e : i = h
     ·subst e; simpa using hx
     ·cases h3 : nlt (enmL l i) x
      ·rfl
      ·exact absurd (nlt_trans (HLT.out h i (by omega) h2) h3) hx, HB.out.trans (hb1.mono HB.out.size)⟩
    case measure =>
     simp only [intOf]
     omega
  ·have e : a = b := by omega
   subst e
   by_cases hq : a < n
   ·have hq1 : (a : Int) < n := by omega
    obtain ⟨-, -, g, off, rfl, hcell⟩ := (HI.out.keep HB.out).at_ hq
    have q0 : wr.cell? ⟨g, off + a * 2, none⟩ = some (.string (enmL l a)) := hcell 0 (by omega)
    have q1 : wr.cell? ⟨g, off + a * 2 + 1, none⟩ = some (.int .i64 (enuL l a)) := hcell 1 (by omega)
    have HC := lhi (entryc_calls (enmL l a) x (enuL l a) wr)
    have HE := lhi (show (scmp (enmL l a) x == 0) = decide (enmL l a = x) by
     rw [Bool.eq_iff_iff, beq_iff_eq, decide_eq_true_eq]; exact scmp_zero _ _)
    obtain ⟨cv, hcv⟩ : ∃ c, scmp (enmL l a) x = c := ⟨_, rfl⟩
    rw [hcv] at HC HE
    clear hcell hcv
    go_wp2_with (go_at_call 103; refine HC.out.mono ?_; rintro e w1 ⟨rfl, hb1⟩)
    go_ret2
    exact ⟨⟨a, by omega, HLO.out, HHI.out, by simp [hq, <- HE.out]⟩, HB.out.trans (hb1.mono HB.out.size)⟩
   ·have hq1 : ¬ (a : Int) < n := by omega
    go_wp2_with (fail)
    go_ret2
    exact ⟨⟨a, by omega, HLO.out, HHI.out, by simp [hq]⟩, HB.out⟩
set_option maxRecDepth 1000000 in
theorem entry_calls {w : World} {iv : Value} {l : List (ByteArray × Int)} (hS : RowAt w iv l.length 2 (entL l)) (hn : l.length <= 1000) (x : ByteArray) (hlt : RiseL l) :
  Calls Tryz.prog 62 #[iv, .string x] w fun e w' => (∃ k : Nat, k <= l.length /\ (∀ i, i < k -> nlt (enmL l i) x = true) /\ (∀ i, k <= i -> i < l.length -> nlt (enmL l i) x = false) /\ e = .returned (.tuple #[.int .i64 k, .bool (decide (k < l.length) && decide (enmL l k = x))])) /\ Below w.heap.size w w' := by
 have HC := lhi (bsE_calls hS hn x hlt)
 clear hS hlt
 go_enter Tryz.func62, Tryz.ntmps62
 go_wp2_with (go_at_call 102; refine HC.out.mono ?_; rintro e w1 ⟨⟨k, hk, h1, h2, rfl⟩, hb1⟩)
 go_ret2
 exact ⟨⟨k, hk, h1, h2, rfl⟩, hb1⟩
end
section
open Go.RowKit
set_option maxHeartbeats 1000000
def zerosA (n : Nat) : Array Value := (List.replicate n (Value.int .i64 0)).toArray
set_option maxRecDepth 1000000 in
theorem mNew_calls (n : Nat) (h1 : 1 <= n) (h8 : n <= 8) (w : World) : Calls Tryz.prog 14 #[.int .i64 n] w fun e w' => ∃ g gm, e = .returned (.tuple #[.agg #[.slice (some ⟨g, 0, none⟩) 1 1, .slice none 0 0, .slice (some ⟨gm, 0, none⟩) n n], .int .i64 0]) /\ Below w.heap.size w w' /\ w.heap.size <= g /\ w.heap.size <= gm /\ Blk w' g 72 #[.int .i64 1, .bool true, .slice none 0 0, .string ⟨#[]⟩] /\ Blk w' gm 3 (zerosA n) := by
 obtain ⟨i0, hi, hz0, hz1, hz2⟩ := info_parts info_int
 have hmk : ∀ W : World, (Instr.makeSlice 30 (.int .i64 n) (.int .i64 n)).run Tryz.prog W = .ok (.slice (some ⟨W.heap.size, 0, none⟩) n n) (W.alloc (.cells (zerosA n) 3)) := by
  intro W
  have h := run_make_rowN (P := Tryz.prog) (w := W) 30 3 i0 _ Tryz.underlying30 hi hz0 .i64 .i64 n n (Nat.le_refl _) (by rw [hz2]; omega) (by omega)
  simp only [hz1, Nat.mul_one, Value.cells, madeCells_one] at h
  exact h
 have HMK := lhi hmk
 clear hmk hi hz0 hz1 hz2
 have hn1 : ¬ (n : Int) < 1 := by omega
 have hn8 : ¬ (8 : Int) < (n : Int) := by omega
 have hmk := HMK.out ((w.alloc (.cells #[.slice none 0 0, .slice none 0 0, .slice none 0 0] 32)).alloc (.cells #[.int .i64 1, .bool true, .slice none 0 0, .string ⟨#[]⟩] 72))
 go_enter Tryz.func14, Tryz.ntmps14
 go_wp2_with (fail)
 refine bodyPost_ret (v := .tuple #[.agg #[.slice (some ⟨w.heap.size + 1, 0, none⟩) 1 1, .slice none 0 0, .slice (some ⟨w.heap.size + 1 + 1, 0, none⟩) n n], .int .i64 0]) (by simp [results, Tryz.results14, go_sem]) rfl ⟨_, _, rfl, ?_⟩
 exact ⟨(((Below.refl _ _).alloc (Nat.le_refl _) _).alloc (by simp) _).alloc (by simp; omega) _, by omega, by omega, (Blk.newAt _ _ _ (by simp)).alloc _, Blk.newAt _ _ _ (by simp)⟩
end
section
open Go.RowKit
set_option maxHeartbeats 1000000
structure Ord (S : St) : Prop where
 n : S.inodes.length <= 1000
 rise : ∀ i j, i < j -> j < S.inodes.length -> S.num i < S.num j
 ents : ∀ i, i < S.inodes.length -> (S.ino i).ents.length <= 1000 /\ RiseL (S.ino i).ents
 goal : ∀ i k, i < S.inodes.length -> k < (S.ino i).ents.length -> ∃ g : Nat, g < S.inodes.length /\ placeF S (S.enu i k) = g
def entF (l : List (ByteArray × Int)) (x : ByteArray) : Option Nat := (List.range l.length).find? fun i => decide (enmL l i = x)
theorem entF_yes {l : List (ByteArray × Int)} {x : ByteArray} {k : Nat} (hk : k < l.length) (h : enmL l k = x) (hb : ∀ i, i < k -> nlt (enmL l i) x = true) : entF l x = some k := by
 unfold entF
 rw [List.find?_eq_some_iff_getElem]
 refine ⟨by simpa using h, k, by simpa using hk, by simp, fun j hj => ?_⟩
 have := hb j hj
 simp only [List.getElem_range, Bool.not_eq_true', decide_eq_false_iff_not]
 rintro rfl
 rw [nlt_irrefl] at this
 cases this
theorem entF_no {l : List (ByteArray × Int)} {x : ByteArray} {k : Nat} (hr : RiseL l) (h1 : ∀ i, i < k -> nlt (enmL l i) x = true) (h2 : ∀ i, k <= i -> i < l.length -> nlt (enmL l i) x = false) (h : (decide (k < l.length) && decide (enmL l k = x)) = false) : entF l x = none := by
 unfold entF
 rw [List.find?_eq_none]
 intro i hi hx
 have hi : i < l.length := by simpa using hi
 have hx : enmL l i = x := by simpa using hx
 by_cases e : i < k
 ·have := h1 i e
  rw [hx, nlt_irrefl] at this
  cases this
 ·by_cases e2 : i = k
  ·subst e2
   simp [hi, hx] at h
  ·have h3 := hr k i (by omega) hi
   have h4 := h2 k (Nat.le_refl _) (by omega)
   rw [hx] at h3
   rw [h3] at h4
   cases h4
theorem entry_no {w : World} {iv : Value} {l : List (ByteArray × Int)} (hS : RowAt w iv l.length 2 (entL l)) (hn : l.length <= 1000) (x : ByteArray) (hlt : RiseL l) (he : entF l x = none) :
  Calls Tryz.prog 62 #[iv, .string x] w fun e w' => (∃ k : Nat, e = .returned (.tuple #[.int .i64 k, .bool false])) /\ Below w.heap.size w w' := by
 refine (entry_calls hS hn x hlt).mono ?_
 rintro e w' ⟨⟨k, hk, h1, h2, rfl⟩, hb⟩
 cases hx : (decide (k < l.length) && decide (enmL l k = x)) with
 | false => exact ⟨⟨k, rfl⟩, hb⟩
 | true =>
  simp only [Bool.and_eq_true, decide_eq_true_eq] at hx
  rw [entF_yes hx.1 hx.2 h1] at he
  cases he
theorem entry_yes {w : World} {iv : Value} {l : List (ByteArray × Int)} (hS : RowAt w iv l.length 2 (entL l)) (hn : l.length <= 1000) (x : ByteArray) (hlt : RiseL l) {k : Nat} (he : entF l x = some k) :
  Calls Tryz.prog 62 #[iv, .string x] w fun e w' => e = .returned (.tuple #[.int .i64 k, .bool true]) /\ Below w.heap.size w w' := by
 refine (entry_calls hS hn x hlt).mono ?_
 rintro e w' ⟨⟨k', hk, h1, h2, rfl⟩, hb⟩
 cases hx : (decide (k' < l.length) && decide (enmL l k' = x)) with
 | false =>
  rw [entF_no hlt h1 h2 hx] at he
  cases he
 | true =>
  simp only [Bool.and_eq_true, decide_eq_true_eq] at hx
  rw [entF_yes hx.1 hx.2 h1] at he
  injection he with he
  subst he
  exact ⟨rfl, hb⟩
theorem entF_lt {l : List (ByteArray × Int)} {x : ByteArray} {k : Nat} (h : entF l x = some k) : k < l.length := by
 have := List.mem_of_find?_eq_some h
 simpa using this
def walkS (S : St) : List ByteArray -> Nat -> Int × Int
 | [], a => (a, 0)
 | x :: l, a => if S.dir a then match entF (S.ino a).ents x with
  | some k => walkS S l (placeF S (S.enu a k)).toNat
  | none => (0, 1) else (0, 7)
set_option maxRecDepth 1000000 in
theorem mwalk_calls {w : World} {sp : Nat} {iv ov mv : Value} {ev : Nat -> Value} {S : St} (hS : StM w iv ov mv ev S) (hO : Ord S) (h1 : 0 < S.inodes.length) (h0 : w.cell? ⟨sp, 0, none⟩ = some iv) {v : Value} {ns : List ByteArray} (hv : RowAt w v ns.length 1 (nmC ns)) (hn : ns.length <= 1000) :
  Calls Tryz.prog 24 #[.pointer (some ⟨sp, 0, none⟩), v] w fun e w' => e = .returned (.tuple #[.int .i64 (walkS S ns 0).1, .int .i64 (walkS S ns 0).2]) /\ Below w.heap.size w w' := by
 have HS := lhi hS
 have HV := lhi hv
 obtain ⟨A, cap, rfl, -, -⟩ := hv
 obtain ⟨IA, icap, rfl, -, -⟩ := hS.ino
 obtain ⟨n, hnn⟩ : ∃ n, ns.length = n := ⟨_, rfl⟩
 rw [hnn] at hn HV
 rw [hnn]
 obtain ⟨RES, hres⟩ : ∃ r, walkS S ns 0 = r := ⟨_, rfl⟩
 have HNN := lhi hnn
 have HO := lhi hO
 have HRES := lhi hres
 rw [hres]
 clear hS hnn hO hres
 go_enter Tryz.func24, Tryz.ntmps24
 go_wp2_with (fail)
 go_loopw [6, 13] (fun a i wr => ∃ k p : Nat, i = .int .i64 k /\ a = .int .i64 p /\ k <= n /\ p < S.inodes.length /\ walkS S (ns.drop k) p = RES /\ Below w.heap.size w wr) (fun _ i _ => n - (intOf i).toNat)
 case atStart => exact ⟨0, 0, rfl, rfl, by omega, h1, by rw [List.drop_zero]; exact HRES.out, Below.refl _ _⟩
 case round =>
  obtain ⟨k, p, rfl, rfl, hk, hp, hw, hB⟩ := hrel
  have HB := lhi hB
  have HW := lhi hw
  have f0 : wr.cell? ⟨sp, 0, none⟩ = some (.slice IA S.inodes.length icap) := (hB.cell (World.block_lt_of_cell? _ _ h0)).trans h0
  have hp1 : (p : Int) < S.inodes.length := by omega
  have hSm := (HO.out).n
  clear hB hw
  by_cases hq : k < n
  ·have hq1 : (k : Int) < n := by omega
   obtain ⟨-, -, ng, noff, rfl, ncell⟩ := (HV.out.keep HB.out).at_ hq
   have n0 : wr.cell? ⟨ng, noff + k, none⟩ = some (.string (ns.getD k ByteArray.empty)) := by have := ncell 0 (by omega); simpa [nmC] using this
   have hdrop : ns.drop k = ns.getD k ByteArray.empty :: ns.drop (k + 1) := by
    have hl : k < ns.length := by rw [HNN.out]; exact hq
    rw [List.drop_eq_getElem_cons hl, List.getD_eq_getElem?_getD, List.getElem?_eq_getElem hl]; rfl
   rw [hdrop] at HW
   obtain ⟨x, hx⟩ : ∃ x, ns.getD k ByteArray.empty = x := ⟨_, rfl⟩
   rw [hx] at n0 HW
   obtain ⟨-, -, ig, ioff, rfl, icell⟩ := (HS.out.ino.keep HB.out).at_ hp
   have q1 : wr.cell? ⟨ig, ioff + p * 4 + 1, none⟩ = some (.bool (S.dir p)) := icell 1 (by omega)
   have q2 : wr.cell? ⟨ig, ioff + p * 4 + 2, none⟩ = some (ev p) := icell 2 (by omega)
   clear ncell icell hdrop hx
   by_cases hd : S.dir p = true
   ·rw [hd] at q1
    have hW2 := HW.out
    unfold walkS at hW2
    rw [hd, if_pos rfl] at hW2
    have HEN := lhi (show RowAt wr (ev p) (S.ino p).ents.length 2 (entL (S.ino p).ents) from (HS.out.ent p hp).keep HB.out)
    have HEO := lhi ((HO.out).ents p hp)
    obtain ⟨EA, ecap, hev, -, -⟩ := HEN.out
    rw [hev] at q2 HEN
    obtain ⟨m, hm⟩ : ∃ m, (S.ino p).ents.length = m := ⟨_, rfl⟩
    cases hE : entF (S.ino p).ents x with
    | none =>
     rw [hE] at hW2
     have HC := lhi (entry_no HEN.out HEO.out.1 x HEO.out.2 hE)
     rw [hm] at q2 HC
     clear hev hE
     go_wp2_with (go_at_call 62; refine HC.out.mono ?_; rintro e w1 ⟨⟨k1, rfl⟩, hb1⟩)
     go_ret2
     exact ⟨by rw [<- hW2]; rfl, HB.out.trans (hb1.mono HB.out.size)⟩
    | some k1 =>
     have hk1 := entF_lt hE
     rw [hE] at hW2
     have HC := lhi (entry_yes HEN.out HEO.out.1 x HEO.out.2 hE)
     obtain ⟨g, hg, hgo⟩ := (HO.out).goal p k1 hp hk1
     have hgo := hgo
     rw [hm] at q2 HC hk1
     have hm1 : (k1 : Int) < m := by omega
     obtain ⟨-, -, eg, eoff, rfl, ecell⟩ := (show RowAt wr (.slice EA m ecap) m 2 (entL (S.ino p).ents) from hm ▸ HEN.out).at_ hk1
     have e1 : wr.cell? ⟨eg, eoff + k1 * 2 + 1, none⟩ = some (.int .i64 (S.enu p k1)) := ecell 1 (by omega)
     have HFI := lhi (fun (w1 : World) (hb1 : Below wr.heap.size wr w1) => find_in (sp := sp) (HS.out.keep (HB.out.trans (hb1.mono HB.out.size))) (HO.out).n (S.enu p k1) (HO.out).rise ((hb1.cell (World.block_lt_of_cell? _ _ f0)).trans f0))
     obtain ⟨eu, heu⟩ : ∃ y, S.enu p k1 = y := ⟨_, rfl⟩
     have hW3 : walkS S (ns.drop (k + 1)) g = RES := by
      have : walkS S (ns.drop (k + 1)) (placeF S (S.enu p k1)).toNat = RES := hW2
      rwa [hgo, Int.toNat_natCast] at this
     rw [heu] at e1 HFI hgo
     have HGO := lhi hgo
     have HW3 := lhi hW3
     clear hev hE hW2 ecell heu hgo hW3
     go_wp2_with (first
      | (go_at_call 62; refine HC.out.mono ?_; rintro e w1 ⟨rfl, hb1⟩; have e2 := (hb1.cell (World.block_lt_of_cell? _ _ e1)).trans e1; have f2 := (hb1.cell (World.block_lt_of_cell? _ _ f0)).trans f0; have q3 := (hb1.cell (World.block_lt_of_cell? _ _ q2)).trans q2; have HB1 := lhi hb1; clear hb1)
      | (go_at_call 63; refine (HFI.out _ HB1.out).mono ?_; rintro e w2 ⟨rfl, hb2⟩; rw [HGO.out]))
     go_roundw
     case rel => exact ⟨k + 1, g, by simp, rfl, by omega, hg, HW3.out, (HB.out.trans (HB1.out.mono HB.out.size)).trans (hb2.mono (Nat.le_trans HB.out.size HB1.out.size))⟩
     case measure =>
      simp only [intOf]
      omega
   ·have hd : S.dir p = false := by simpa using hd
    rw [hd] at q1
    have hW2 := HW.out
    unfold walkS at hW2
    rw [hd, if_neg (by decide)] at hW2
    go_wp2_with (fail)
    go_ret2
    exact ⟨by rw [<- hW2]; rfl, HB.out⟩
  ·have e : k = n := by omega
   subst e
   have hW2 := HW.out
   rw [<- HNN.out, List.drop_length] at hW2
   go_wp2_with (fail)
   go_ret2
   exact ⟨by rw [<- hW2]; rfl, HB.out⟩
end
section
open Go.RowKit
theorem num_get {S : St} {i : Nat} (h : i < S.inodes.length) : S.num i = S.inodes[i].num := by
 unfold St.num St.ino
 rw [getD_get h]
theorem ino_get {S : St} {i : Nat} (h : i < S.inodes.length) : S.ino i = S.inodes[i] := by
 unfold St.ino
 rw [getD_get h]
theorem placeF_of {S : St} (hr : ∀ i j, i < j -> j < S.inodes.length -> S.num i < S.num j) {y : Ino} (hy : y ∈ S.inodes) : ∃ g : Nat, g < S.inodes.length /\ S.inodes[g]? = some y /\ placeF S y.num = g := by
 obtain ⟨g, hg, e⟩ := List.mem_iff_getElem.1 hy
 refine ⟨g, hg, by rw [List.getElem?_eq_getElem hg, e], placeF_at hg (by rw [num_get hg, e]) fun i hi => ?_⟩
 have := hr i g hi hg
 rw [num_get hg, e] at this
 omega
theorem Inv.ord {S : St} (h : Inv S) : Ord S := by
 have hsm := h.small
 have hr : ∀ i j, i < j -> j < S.inodes.length -> S.num i < S.num j := fun i j hij hj => by
  rw [num_get hj, num_get (by omega : i < S.inodes.length)]
  exact List.pairwise_iff_getElem.1 h.rise i j (by omega) hj hij
 refine ⟨hsm.ni, hr, fun i hi => ⟨hsm.en i, fun a b hab hb => ?_⟩, fun i k hi hk => ?_⟩
 ·have hp := h.up _ (List.getElem_mem hi)
  rw [<- ino_get hi] at hp
  have := List.pairwise_iff_getElem.1 hp a b (by omega) hb hab
  unfold enmL
  rw [getD_get hb, getD_get (by omega : a < (S.ino i).ents.length)]
  exact this
 ·have hk' : k < S.inodes[i].ents.length := by rw [<- ino_get hi]; exact hk
  obtain ⟨-, y, hy, e⟩ := h.goal _ (List.getElem_mem hi) _ (List.getElem_mem hk')
  obtain ⟨g, hg, -, hp⟩ := placeF_of hr hy
  refine ⟨g, hg, ?_⟩
  have : S.enu i k = y.num := by
   unfold St.enu
   rw [getD_get hk]
   rw [e]
   congr 1
   simp [ino_get hi]
  rw [this]
  exact hp
end
section
open Go.RowKit
set_option maxHeartbeats 1000000
set_option maxRecDepth 1000000 in
theorem mayMadec_no (x : Int) (hx : 0 <= x /\ x <= 32) (w : World) : Calls Tryz.prog 65 #[.int .i64 x] w fun e w' => e = .returned (.bool false) /\ w' = w := by
 have h1 : ¬ x < 0 := by omega
 have h2 : ¬ 32 < x := by omega
 go_enter Tryz.func65, Tryz.ntmps65
 go_wp2
 go_ret
 exact ⟨by simp [h2], rfl⟩
set_option maxRecDepth 1000000 in
theorem indexMade_no {w : World} {v : Value} {S : St} (hv : RowAt w v S.made.length 1 (madC S)) (hn : S.made.length <= 1000) (hm : ∀ i, i < S.made.length -> 0 <= S.mad i /\ S.mad i <= 32) :
  Calls Tryz.prog 107 #[v, .func (.func 65) #[] #[]] w fun e w' => e = .returned (.int .i64 (-1)) /\ Below w.heap.size w w' := by
 have HV := lhi hv
 obtain ⟨A, cap, rfl, -, -⟩ := hv
 obtain ⟨n, hnn⟩ : ∃ n, S.made.length = n := ⟨_, rfl⟩
 rw [hnn] at hn HV hm
 rw [hnn]
 have HM := lhi hm
 clear hnn hm
 go_enter Tryz.func107, Tryz.ntmps107
 go_wp2_with (fail)
 go_loopw [8] (fun i wr => ∃ k : Nat, i = .int .i64 k /\ k <= n /\ Below w.heap.size w wr) (fun i _ => n - (intOf i).toNat)
 case atStart => exact ⟨0, rfl, by omega, Below.refl _ _⟩
 case round =>
  obtain ⟨k, rfl, hk, hB⟩ := hrel
  have HB := lhi hB
  by_cases hq : k < n
  ·have hq1 : (k : Int) < n := by omega
   obtain ⟨-, -, g, off, rfl, hcell⟩ := (HV.out.keep hB).at_ hq
   have n0 : wr.cell? ⟨g, off + k, none⟩ = some (.int .i64 (S.mad k)) := by have := hcell 0 (by omega); simpa [madC] using this
   have HC := lhi (mayMadec_no (S.mad k) (HM.out k hq))
   clear hcell hB
   go_wp2_with (go_at_call 65; refine (HC.out _).mono ?_; rintro e w1 ⟨rfl, h⟩; have h := h.symm; subst h)
   go_roundw
   case rel => exact ⟨k + 1, by simp, by omega, HB.out⟩
   case measure =>
    simp only [intOf]
    omega
  ·have e : k = n := by omega
   subst e
   clear hB
   go_wp2_with (fail)
   go_ret
   exact ⟨rfl, HB.out⟩
theorem anyMade_no {w : World} {v : Value} {S : St} (hv : RowAt w v S.made.length 1 (madC S)) (hn : S.made.length <= 1000) (hm : ∀ i, i < S.made.length -> 0 <= S.mad i /\ S.mad i <= 32) :
  Calls Tryz.prog 64 #[v, .func (.func 65) #[] #[]] w fun e w' => e = .returned (.bool false) /\ Below w.heap.size w w' := by
 have HC := lhi (indexMade_no hv hn hm)
 clear hv hm
 go_enter Tryz.func64, Tryz.ntmps64
 go_wp2_with (go_at_call 107; refine HC.out.mono ?_; rintro e w1 ⟨rfl, hb1⟩)
 go_ret
 exact ⟨rfl, hb1⟩
set_option maxRecDepth 1000000 in
theorem mayMade_yes {w : World} {sp : Nat} {iv ov mv : Value} {ev : Nat -> Value} {S : St} (hS : StM w iv ov mv ev S) (hI : Inv S) (h2 : w.cell? ⟨sp, 2, none⟩ = some mv) :
  Calls Tryz.prog 25 #[.pointer (some ⟨sp, 0, none⟩)] w fun e w' => e = .returned (.bool true) /\ Below w.heap.size w w' := by
 have HC := lhi (anyMade_no hS.mad (by have := hI.m8; omega) fun i hi => by
  have := hI.mb _ (List.getElem_mem hi)
  unfold St.mad
  rw [getD_get hi]
  exact this)
 have h1 := hI.m1
 have h8 := hI.m8
 obtain ⟨A, cap, rfl, -, -⟩ := hS.mad
 have e1 : ¬ ((S.made.length : Int) < 1) := by omega
 have e2 : ¬ ((8 : Int) < S.made.length) := by omega
 clear hS hI
 go_enter Tryz.func25, Tryz.ntmps25
 go_wp2_with (go_at_call 64; refine HC.out.mono ?_; rintro e w1 ⟨rfl, hb1⟩)
 go_ret
 exact ⟨rfl, hb1⟩
end
section
open Go.RowKit
set_option maxHeartbeats 1000000
set_option maxRecDepth 1000000 in
theorem mayNum_yes {w : World} {sp : Nat} {iv ov mv : Value} {ev : Nat -> Value} {S : St} (hS : StM w iv ov mv ev S) (hI : Inv S) (h2 : w.cell? ⟨sp, 2, none⟩ = some mv) {x : Int} (hx : Given S.made x) (hb : x <= 1000000) :
  Calls Tryz.prog 66 #[.pointer (some ⟨sp, 0, none⟩), .int .i64 x] w fun e w' => e = .returned (.bool true) /\ Below w.heap.size w w' := by
 obtain ⟨g1, g2, g3⟩ := hx
 have hC := core_calls x ⟨by omega, hb⟩
 have hM := made_calls x ⟨g1, hb⟩
 have e1 : coreF x = (x - 2) % 8 := by unfold coreF; rw [if_neg (by omega)]
 obtain ⟨c, hc⟩ : ∃ c : Nat, (x - 2) % 8 = c := ⟨((x - 2) % 8).toNat, by omega⟩
 rw [e1, hc] at hC
 rw [hc] at g2 g3
 have hcl : c < S.made.length := by omega
 have h8 := hI.m8
 obtain ⟨A, cap, rfl, -, hcell⟩ := hS.mad
 obtain ⟨g, off, rfl, hcel⟩ := hcell (by omega)
 clear hcell
 have q0 : w.cell? ⟨g, off + c, none⟩ = some (.int .i64 (S.mad c)) := by have := hcel c 0 hcl (by omega); simpa [madC] using this
 have e3 : madeF x < S.mad c := by unfold madeF St.mad; simpa using g3
 obtain ⟨y, hy⟩ : ∃ y, madeF x = y := ⟨_, rfl⟩
 obtain ⟨z, hz⟩ : ∃ z, S.mad c = z := ⟨_, rfl⟩
 rw [hy] at hM e3
 rw [hz] at q0 e3
 have d1 : decide ((0 : Int) <= c) = true := by simp
 have d2 : decide ((c : Int) < S.made.length) = true := by simp; omega
 have d3 : decide (y < z) = true := by simpa using e3
 have HC := lhi hC
 have HM := lhi hM
 clear hS hI hcel hC hM e1 hc g1 g2 g3 hy hz e3
 go_enter Tryz.func66, Tryz.ntmps66
 go_wp2_with (go_at_call 71; refine (HC.out _).mono ?_; rintro e w' ⟨rfl, h⟩; have h := h.symm; subst h)
 go_quiet ((go_at_call 72; exact Calls.quiet_of_same (HM.out _)))
 go_wp2_with (fail)
 go_ret
 exact ⟨rfl, ⟨rfl, rfl, rfl, Nat.le_refl _, fun _ _ => rfl⟩⟩
end
section
open Go.RowKit
set_option maxHeartbeats 1000000
set_option maxRecDepth 1000000 in
theorem openc_calls (c f n x : Int) {p : Nat} {w : World} (hp : w.cell? ⟨p, 0, none⟩ = some (.int .i64 x)) : Calls Tryz.prog 69 #[.agg #[.int .i64 c, .int .i64 f, .int .i64 n], .pointer (some ⟨p, 0, none⟩)] w fun e w' => e = .returned (.bool (n == x)) /\ Below w.heap.size w w' := by
 have hl := World.block_lt_of_cell? w _ hp
 have HB := lhi ((Below.refl w.heap.size w).alloc (Nat.le_refl _) (.cells #[.int .i64 c, .int .i64 f, .int .i64 n] 109))
 go_enter Tryz.func69, Tryz.ntmps69
 go_wp2
 go_ret
 exact ⟨rfl, HB.out⟩
def openI (S : St) (x : Int) : Int := match (List.range S.opens.length).find? (fun i => S.on i == x) with
 | some k => k
 | none => -1
theorem openI_at {S : St} {x : Int} {k : Nat} (hk : k < S.opens.length) (h : S.on k = x) (hlt : ∀ i, i < k -> S.on i ≠ x) : openI S x = k := by
 have : (List.range S.opens.length).find? (fun i => S.on i == x) = some k := by
  rw [List.find?_eq_some_iff_getElem]
  exact ⟨by simpa using h, k, by simpa using hk, by simp, fun j hj => by simpa using hlt j hj⟩
 unfold openI
 rw [this]
theorem openI_no {S : St} {x : Int} (h : ∀ i, i < S.opens.length -> S.on i ≠ x) : openI S x = -1 := by
 have : (List.range S.opens.length).find? (fun i => S.on i == x) = none := by
  rw [List.find?_eq_none]
  intro i hi
  simpa using h i (by simpa using hi)
 unfold openI
 rw [this]
set_option maxRecDepth 1000000 in
theorem openIdx_calls {w : World} {v : Value} {S : St} (hv : RowAt w v S.opens.length 3 (opnC S)) (hn : S.opens.length <= 1000) {x : Int} {p : Nat} (hp : w.cell? ⟨p, 0, none⟩ = some (.int .i64 x)) :
  Calls Tryz.prog 108 #[v, .func (.func 69) #[] #[.pointer (some ⟨p, 0, none⟩)]] w fun e w' => e = .returned (.int .i64 (openI S x)) /\ Below w.heap.size w w' := by
 have HV := lhi hv
 have H1 := lhi (fun (k : Nat) a b c => openI_at (S := S) (x := x) (k := k) a b c)
 have H2 := lhi (fun a => openI_no (S := S) (x := x) a)
 obtain ⟨A, cap, rfl, -, -⟩ := hv
 obtain ⟨n, hnn⟩ : ∃ n, S.opens.length = n := ⟨_, rfl⟩
 rw [hnn] at hn HV H1 H2
 rw [hnn]
 clear hnn
 go_enter Tryz.func108, Tryz.ntmps108
 go_wp2_with (fail)
 go_loopw [8] (fun i wr => ∃ k : Nat, i = .int .i64 k /\ k <= n /\ (∀ j, j < k -> S.on j ≠ x) /\ Below w.heap.size w wr) (fun i _ => n - (intOf i).toNat)
 case atStart => exact ⟨0, rfl, by omega, fun j hj => absurd hj (by omega), Below.refl _ _⟩
 case round =>
  obtain ⟨k, rfl, hk, hl, hB⟩ := hrel
  have HB := lhi hB
  have HL := lhi hl
  clear hl
  by_cases hq : k < n
  ·have hq1 : (k : Int) < n := by omega
   obtain ⟨-, -, g, off, rfl, hcell⟩ := (HV.out.keep hB).at_ hq
   have q0 : wr.cell? ⟨g, off + k * 3, none⟩ = some (.int .i64 (S.oc k)) := hcell 0 (by omega)
   have q1 : wr.cell? ⟨g, off + k * 3 + 1, none⟩ = some (.int .i64 (S.of k)) := hcell 1 (by omega)
   have q2 : wr.cell? ⟨g, off + k * 3 + 2, none⟩ = some (.int .i64 (S.on k)) := hcell 2 (by omega)
   have HC := lhi (openc_calls (S.oc k) (S.of k) (S.on k) x ((hB.cell (World.block_lt_of_cell? _ _ hp)).trans hp))
   clear hcell hB
   by_cases e : S.on k = x
   ·have e1 : (S.on k == x) = true := by simp [e]
    have HR := lhi (H1.out k hq e HL.out)
    rw [e1] at HC
    clear e e1
    go_wp2_with (go_at_call 69; refine HC.out.mono ?_; rintro e w1 ⟨rfl, hb1⟩)
    go_ret
    exact ⟨by rw [HR.out]; rfl, HB.out.trans (hb1.mono HB.out.size)⟩
   ·have e1 : (S.on k == x) = false := by simp [e]
    rw [e1] at HC
    have HE := lhi e
    clear e
    go_wp2_with (go_at_call 69; refine HC.out.mono ?_; rintro e w1 ⟨rfl, hb1⟩)
    go_roundw
    case rel => exact ⟨k + 1, by simp, by omega, fun j hj => by
     by_cases h : j = k
     ·subst h; exact HE.out
     ·exact HL.out j (by omega), HB.out.trans (hb1.mono HB.out.size)⟩
    case measure =>
     simp only [intOf]
     omega
  ·have e : k = n := by omega
   subst e
   have HR := lhi (H2.out HL.out)
   clear hB
   go_wp2_with (fail)
   go_ret
   exact ⟨by rw [HR.out]; rfl, HB.out⟩
theorem openAny_calls {w : World} {v : Value} {S : St} (hv : RowAt w v S.opens.length 3 (opnC S)) (hn : S.opens.length <= 1000) {x : Int} {p : Nat} (hp : w.cell? ⟨p, 0, none⟩ = some (.int .i64 x)) :
  Calls Tryz.prog 68 #[v, .func (.func 69) #[] #[.pointer (some ⟨p, 0, none⟩)]] w fun e w' => e = .returned (.bool (decide (0 <= openI S x))) /\ Below w.heap.size w w' := by
 have HC := lhi (openIdx_calls hv hn hp)
 clear hv
 go_enter Tryz.func68, Tryz.ntmps68
 go_wp2_with (go_at_call 108; refine HC.out.mono ?_; rintro e w1 ⟨rfl, hb1⟩)
 go_ret
 exact ⟨rfl, hb1⟩
set_option maxRecDepth 1000000 in
theorem open_calls' {w : World} {sp : Nat} {iv ov mv : Value} {ev : Nat -> Value} {S : St} (hS : StM w iv ov mv ev S) (hn : S.opens.length <= 1000) (h1 : w.cell? ⟨sp, 1, none⟩ = some ov) (x : Int) :
  Calls Tryz.prog 29 #[.pointer (some ⟨sp, 0, none⟩), .int .i64 x] w fun e w' => e = .returned (.bool (decide (0 <= openI S x))) /\ Below w.heap.size w w' := by
 have hl := World.block_lt_of_cell? w _ h1
 have hmf : ∀ (fn : Fn) (first cap : Array Value) (w : World), (Instr.makeFunc fn first cap).run Tryz.prog w = .ok (.func fn first cap) w := fun _ _ _ _ => rfl
 have hb := (Below.refl w.heap.size w).alloc (Nat.le_refl _) (.cells #[.int .i64 x] 3)
 have HC := lhi (openAny_calls (hS.opn.keep hb) hn (x := x) (p := w.heap.size) (by simp [go_sem]))
 have HB := lhi hb
 obtain ⟨A, cap, rfl, -, -⟩ := hS.opn
 clear hS hb
 go_enter Tryz.func29, Tryz.ntmps29
 go_wp2_with (go_at_call 68; refine HC.out.mono ?_; rintro e w1 ⟨rfl, hb1⟩)
 go_ret
 exact ⟨rfl, HB.out.trans (hb1.mono HB.out.size)⟩
end
end Go.Proofs.YtkebjgebkneijaaGreatDoor
